/- mayRules. -/
import Derived.Test.YtabinbeohecebaaDoorRuA
namespace Go.Proofs.YtabinbeohecebaaDoor
open Go.RowKit
set_option linter.unusedVariables false
set_option linter.unusedSimpArgs false

def mayR (r : RD) : Bool := mayB r.al r.pf.length r.mo r.ap r.ra r.wi
def rulesE (rs : List RD) : Int := if 64 < rs.length then 8 else if rs.all mayR then 0 else 241

theorem all_take_succ {rs : List RD} {k : Nat} (hk : k < rs.length) (h : (rs.take k).all mayR = true) (hm : mayR (rs.getD k RD.zero) = true) : (rs.take (k + 1)).all mayR = true := by
  rw [List.take_succ_eq_append_getElem hk, List.all_append, h]
  rw [List.getD_eq_getElem?_getD, List.getElem?_eq_getElem hk] at hm
  simpa using hm
theorem all_not {rs : List RD} {k : Nat} (hk : k < rs.length) (hm : mayR (rs.getD k RD.zero) = false) : rs.all mayR = false := by
  rw [List.getD_eq_getElem?_getD, List.getElem?_eq_getElem hk] at hm
  rw [List.all_eq_false]
  exact ⟨rs[k], List.getElem_mem hk, by simpa using hm⟩

set_option maxHeartbeats 4000000 in
theorem mayRules_any (A : Option Addr) (c : Nat) (rs : List RD) (w : World) (hr : RulesIn w A rs) (hl : rs.length ≤ 2199023255552) :
    Calls Tryd.prog 11 #[.slice A rs.length c] w fun e w' => e = .returned (.int .i64 (rulesE rs)) ∧ Below w.heap.size w w' := by
  rcases Nat.lt_or_ge 64 rs.length with h64 | h64
  · go_enter Tryd.func11, Tryd.ntmps11
    go_wp2
    go_ret
    exact ⟨by rw [rulesE, if_pos h64]; rfl, Below.refl _ _⟩
  have HR := Lib.hid hr
  clear hr
  go_enter Tryd.func11, Tryd.ntmps11
  go_wp2
  go_loopw [4, 10] (fun _ i wr => ∃ k : Nat, k ≤ rs.length ∧ i = .int .i64 k ∧ ((rs.take k).all mayR = true) ∧ Below w.heap.size w wr) (fun _ i _ => rs.length - (intOf i).toNat)
  case atStart => exact ⟨0, Nat.zero_le _, rfl, by simp, Below.refl _ _⟩
  case round =>
    obtain ⟨k, hk, rfl, hall, hB⟩ := hrel
    have hall := Lib.hid hall
    by_cases hlt : k < rs.length
    · obtain ⟨b, o, rfl, H⟩ := HR.out (by omega)
      have hR := (H k hlt).on hB
      have hs := Lib.hid (all_take_succ hlt hall.out)
      have hf := Lib.hid (all_not hlt)
      have hB := Lib.hid hB
      clear H HR
      generalize rs.getD k RD.zero = r at hR hs hf
      obtain ⟨A1, c1, x1, -, -⟩ := hR.c1
      have x0 := hR.c0
      have x2 := hR.c2
      have x3 := hR.c3
      have x4 := hR.c4
      have x5 := hR.c5
      cases hm : mayB r.al r.pf.length r.mo r.ap r.ra r.wi
      all_goals
        have hm := Lib.hid hm
        go_wp2_with fail
        refine (mayRule_any r.al A1 r.pf.length c1 r.mo r.ap r.ra r.wi _).mono ?_
        rintro e w' ⟨rfl, hB2⟩
        rw [hm.out]
        have hB3 : Below w.heap.size w w' := later hB.out (later (boxed _ _) hB2)
        clear hB2
        have hB3 := Lib.hid hB3
        go_wp2
      · go_ret
        exact ⟨by rw [rulesE, if_neg (by omega), if_neg (by rw [hf.out hm.out]; simp)]; rfl, hB3.out⟩
      · go_roundw
        case rel => exact ⟨k + 1, by omega, by go_num, hs.out hm.out, hB3.out⟩
        case measure => simp [intOf]; omega
    · have : k = rs.length := by omega
      subst this
      go_wp2
      go_ret
      exact ⟨by rw [rulesE, if_neg (by omega), if_pos (by rw [List.take_length] at hall; exact hall.out)]; rfl, hB⟩
end Go.Proofs.YtabinbeohecebaaDoor
