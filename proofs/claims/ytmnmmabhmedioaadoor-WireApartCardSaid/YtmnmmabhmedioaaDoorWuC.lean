/- Wire: SameCommitments of any two lists. -/
import Derived.Test.YtmnmmabhmedioaaDoorWuB
namespace Go.Proofs.YtmnmmabhmedioaaDoor
open Go.RowKit
set_option linter.unusedVariables false
set_option linter.unusedSimpArgs false
set_option maxRecDepth 100000

set_option maxHeartbeats 4000000 in
theorem sameCommitments_any (A B : Option Addr) (c d : Nat) (xs ys : List Pair) (w : World) (hx : PairsIn w A xs) (hy : PairsIn w B ys) (px : ∀ i, PairOk (xs.getD i Pair.zero)) (py : ∀ i, PairOk (ys.getD i Pair.zero)) (hl : xs.length ≤ 2199023255552) (hl2 : ys.length ≤ 2199023255552) :
    Calls Tryd.prog 48 #[.slice A xs.length c, .slice B ys.length d] w fun e w' => e = .returned (.bool (decide (xs = ys))) ∧ ∃ m, w' = w.drewN m := by
  replace hx := Lib.hid hx
  replace hy := Lib.hid hy
  replace px := Lib.hid px
  replace py := Lib.hid py
  by_cases hn : xs.length = ys.length
  · have hn2 : ys.length = xs.length := hn.symm
    clear hn
    rw [hn2]
    replace hn2 := Lib.hid hn2
    clear hl2
    go_enter Tryd.func48, Tryd.ntmps48
    go_wp2
    go_loopw [5] (fun i wr => ∃ k : Nat, k ≤ xs.length ∧ i = .int .i64 k ∧ Hid (xs.take k = ys.take k) ∧ ∃ m, Hid (wr = w.drewN m)) (fun i _ => xs.length - (intOf i).toNat)
    case atStart => exact ⟨0, Nat.zero_le _, rfl, Lib.hid (by simp), 0, Lib.hid rfl⟩
    case round =>
      obtain ⟨k, hk, rfl, he, m, hwr⟩ := hrel
      rcases Nat.lt_or_ge k xs.length with hlt | hge
      · have hlt2 : k < ys.length := by rw [hn2.out]; exact hlt
        obtain ⟨b1, o1, rfl, H1⟩ := hx.out (by omega)
        obtain ⟨b2, o2, rfl, H2⟩ := hy.out (by omega)
        have d1 : Hid (RowAt wr.drew b1 (o1 + k * 65) (pairA (xs.getD k Pair.zero))) := Lib.hid (by rw [hwr.out]; exact H1 k hlt)
        have d2 : Hid (RowAt wr.drew b2 (o2 + k * 65) (pairA (ys.getD k Pair.zero))) := Lib.hid (by rw [hwr.out]; exact H2 k hlt2)
        have hBd : Hid (wr.drew = w.drewN (m + 1)) := Lib.hid (by rw [hwr.out]; rfl)
        clear H1 H2
        have k0 : (0 : Int) ≤ (k : Int) := by omega
        have k1 : (k : Int) < (xs.length : Int) := by omega
        have i1 : (Tryd.prog.info? 29).map (·.size) = some (pairA (xs.getD k Pair.zero)).size := by rw [pairA_size (px.out k)]; kernel_rfl
        have i2 : (Tryd.prog.info? 29).map (·.size) = some (pairA (ys.getD k Pair.zero)).size := by rw [pairA_size (py.out k)]; kernel_rfl
        have hq := neqP (xs.getD k Pair.zero) (ys.getD k Pair.zero) (px.out k) (py.out k)
        by_cases e : xs.getD k Pair.zero = ys.getD k Pair.zero
        · have hs := Lib.hid (take_succ_eq he.out hlt hlt2 e)
          rw [decide_eq_true e] at hq
          replace e := Lib.hid e
          clear hlt2
          generalize xs.getD k Pair.zero = x at d1 i1 hq
          generalize ys.getD k Pair.zero = y at d2 i2 hq
          have hq' : ∀ w, (binOp .neq 29 (.agg (pairA x)) (.agg (pairA y))).run Tryd.prog w = .ok (.bool false) w := hq
          clear hq
          go_wp2_with fail
          refine wp_region_still_lit (by kernel_rfl) (by kernel_rfl) ?_
          still_step
          still_step
          still_step
          refine wpStill_step (fun K hK => ?_)
          refine still_loadR rfl _ _ rfl b1 (o1 + k * 65) rfl (pairA x) d1.out _ Tryd.underlying29 rfl i1 ?_
          refine hK _ ?_
          clear hK K
          still_step
          still_step
          still_step
          refine wpStill_step (fun K hK => ?_)
          refine still_loadR rfl _ _ rfl b2 (o2 + k * 65) rfl (pairA y) d2.out _ Tryd.underlying29 rfl i2 ?_
          refine hK _ ?_
          clear hK K
          still_step
          refine wpStill_nil ?_
          change Exit.then _ _ _ _ wr.drew
          generalize wr.drew = wd at hBd ⊢
          go_wp2_with fail
          exact ⟨⟨k + 1, by omega, by go_num, hs, m + 1, hBd⟩, by simp [intOf]; omega⟩
        · have hxy : Hid (xs ≠ ys) := Lib.hid fun h => e (by rw [h])
          rw [decide_eq_false e] at hq
          replace e := Lib.hid e
          clear hlt2
          generalize xs.getD k Pair.zero = x at d1 i1 hq
          generalize ys.getD k Pair.zero = y at d2 i2 hq
          have hq' : ∀ w, (binOp .neq 29 (.agg (pairA x)) (.agg (pairA y))).run Tryd.prog w = .ok (.bool true) w := hq
          clear hq
          go_wp2_with fail
          refine wp_region_still_lit (by kernel_rfl) (by kernel_rfl) ?_
          still_step
          still_step
          still_step
          refine wpStill_step (fun K hK => ?_)
          refine still_loadR rfl _ _ rfl b1 (o1 + k * 65) rfl (pairA x) d1.out _ Tryd.underlying29 rfl i1 ?_
          refine hK _ ?_
          clear hK K
          still_step
          still_step
          still_step
          refine wpStill_step (fun K hK => ?_)
          refine still_loadR rfl _ _ rfl b2 (o2 + k * 65) rfl (pairA y) d2.out _ Tryd.underlying29 rfl i2 ?_
          refine hK _ ?_
          clear hK K
          still_step
          refine wpStill_nil ?_
          change Exit.then _ _ _ _ wr.drew
          generalize wr.drew = wd at hBd ⊢
          go_wp2_with fail
          go_ret
          exact ⟨congrArg (fun b => Ending.returned (Value.bool b)) (decide_eq_false hxy.out).symm, m + 1, hBd.out⟩
      · have : k = xs.length := by omega
        subst this
        have h := he.out
        rw [List.take_length, ← hn2.out, List.take_length] at h
        go_wp2
        go_ret
        exact ⟨congrArg (fun b => Ending.returned (Value.bool b)) (decide_eq_true h).symm, m, hwr.out⟩
  · have hxy : Hid (xs ≠ ys) := Lib.hid fun h => hn (by rw [h])
    have h1 : ((xs.length : Int) == (ys.length : Int)) = false := beq_eq_false_iff_ne.2 (by omega)
    replace hn := Lib.hid hn
    go_enter Tryd.func48, Tryd.ntmps48
    go_wp2
    go_ret
    exact ⟨congrArg (fun b => Ending.returned (Value.bool b)) (decide_eq_false hxy.out).symm, 0, rfl⟩
end Go.Proofs.YtmnmmabhmedioaaDoor
