/- Wire: are two lists of bytes, two lists of commitments the same? (any two) -/
import Derived.Test.YtmnmmabhmedioaaDoorWsI
namespace Go.Proofs.YtmnmmabhmedioaaDoor
open Go.RowKit
set_option linter.unusedVariables false
set_option linter.unusedSimpArgs false
set_option maxRecDepth 100000

theorem take_succ_eq {α : Type} {xs ys : List α} {k : Nat} {z : α} (h : xs.take k = ys.take k) (hx : k < xs.length) (hy : k < ys.length) (he : xs.getD k z = ys.getD k z) : xs.take (k + 1) = ys.take (k + 1) := by
  rw [List.take_succ_eq_append_getElem hx, List.take_succ_eq_append_getElem hy, h]
  rw [List.getD_eq_getElem?_getD, List.getD_eq_getElem?_getD, List.getElem?_eq_getElem hx, List.getElem?_eq_getElem hy] at he
  have he' : xs[k] = ys[k] := by simpa using he
  rw [he']
theorem nb_ne {x y : UInt8} (h : x ≠ y) : (nb x == nb y) = false := beq_eq_false_iff_ne.2 fun e => h (nb_inj e)

set_option maxHeartbeats 4000000 in
theorem sameBytes_any (A B : Option Addr) (c d : Nat) (xs ys : List UInt8) (w : World) (hx : Bs w A xs) (hy : Bs w B ys) (hl : xs.length ≤ 140737488351232) (hl2 : ys.length ≤ 140737488351232) :
    Calls Tryd.prog 19 #[.slice A xs.length c, .slice B ys.length d] w fun e w' => e = .returned (.bool (decide (xs = ys))) ∧ ∃ m, w' = w.drewN m := by
  replace hx := Lib.hid hx
  replace hy := Lib.hid hy
  by_cases hn : xs.length = ys.length
  · have hn2 : ys.length = xs.length := hn.symm
    clear hn
    go_enter Tryd.func19, Tryd.ntmps19
    go_wp2
    go_loopw [5] (fun i wr => ∃ k : Nat, k ≤ xs.length ∧ i = .int .i64 k ∧ Hid (xs.take k = ys.take k) ∧ ∃ m, wr = w.drewN m) (fun i _ => xs.length - (intOf i).toNat)
    case atStart => exact ⟨0, Nat.zero_le _, rfl, Lib.hid (by simp), 0, rfl⟩
    case round =>
      obtain ⟨k, hk, rfl, he, m, hwr⟩ := hrel
      replace hwr := Lib.hid hwr
      rcases Nat.lt_or_ge k xs.length with hlt | hge
      · obtain ⟨b1, o1, rfl, H1⟩ := hx.out (by omega)
        obtain ⟨b2, o2, rfl, H2⟩ := hy.out (by omega)
        have c1 : wr.cell? ⟨b1, o1 + k, none⟩ = some (B8 (xs.getD k 0)) := by rw [hwr.out]; exact H1 k hlt
        have c2 : wr.cell? ⟨b2, o2 + k, none⟩ = some (B8 (ys.getD k 0)) := by rw [hwr.out]; exact H2 k (by omega)
        clear H1 H2
        have k0 : (0 : Int) ≤ (k : Int) := by omega
        have k1 : (k : Int) < (xs.length : Int) := by omega
        by_cases e : xs.getD k 0 = ys.getD k 0
        · have hs := Lib.hid (take_succ_eq he.out hlt (by omega) e)
          rw [← e] at c2
          replace e := Lib.hid e
          generalize xs.getD k 0 = x at c1 c2
          go_wp2_with fail
          go_quiet (fail)
          go_wp2_with fail
          exact ⟨⟨k + 1, by omega, by go_num, hs, m + nq, by rw [hwr.out, World.drewN_drewN]⟩, by simp [intOf]; omega⟩
        · have hne := nb_ne e
          have hxy : Hid (xs ≠ ys) := Lib.hid fun h => e (by rw [h])
          replace e := Lib.hid e
          generalize xs.getD k 0 = x at c1 hne
          generalize ys.getD k 0 = y at c2 hne
          go_wp2_with fail
          go_quiet (fail)
          go_wp2_with fail
          go_ret
          exact ⟨congrArg (fun b => Ending.returned (Value.bool b)) (decide_eq_false hxy.out).symm, m + nq, by rw [hwr.out, World.drewN_drewN]⟩
      · have : k = xs.length := by omega
        subst this
        go_wp2
        go_ret
        have h := he.out
        rw [List.take_length, ← hn2, List.take_length] at h
        exact ⟨congrArg (fun b => Ending.returned (Value.bool b)) (decide_eq_true h).symm, m, hwr.out⟩
  · have hxy : Hid (xs ≠ ys) := Lib.hid fun h => hn (by rw [h])
    have h1 : ((xs.length : Int) == (ys.length : Int)) = false := beq_eq_false_iff_ne.2 (by omega)
    replace hn := Lib.hid hn
    go_enter Tryd.func19, Tryd.ntmps19
    go_wp2
    go_ret
    exact ⟨congrArg (fun b => Ending.returned (Value.bool b)) (decide_eq_false hxy.out).symm, 0, rfl⟩
end Go.Proofs.YtmnmmabhmedioaaDoor
