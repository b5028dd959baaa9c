/- The reference: May, rules. -/
import Derived.Test.YtabinbeohecebaaDoorRuF
namespace Go.Proofs.YtabinbeohecebaaDoor
open Go.RowKit
set_option linter.unusedVariables false
set_option linter.unusedSimpArgs false

theorem btw_lo {n m : Int} (h : n < 0) : btw n m = false := by simp [btw]; omega
theorem btw_hi {n m : Int} (h : m < n) : btw n m = false := by simp [btw]; omega
theorem btw_ok {n m : Int} (h0 : 0 ≤ n) (h1 : n ≤ m) : btw n m = true := by simp [btw, h0, h1]

set_option maxHeartbeats 8000000 in
theorem refMay_any (al : Bool) (A : Option Addr) (n c : Nat) (mo ap ra wi : Int) (w : World) :
    Calls Tryd.prog 25 #[.agg #[.bool al, .slice A n c, .int .i64 mo, .int .i64 ap, .int .i64 ra, .int .i64 wi]] w fun e w' =>
      e = .returned (.bool (mayB al n mo ap ra wi)) ∧ Below w.heap.size w w' := by
  rcases Nat.lt_or_ge 64 n with hn | hn
  · go_enter Tryd.func25, Tryd.ntmps25
    go_wp2
    go_ret
    exact ⟨by rw [mayB, decide_eq_false (by omega)]; rfl, boxed _ _⟩
  have hd := Lib.hid (show decide (n ≤ 64) = true from decide_eq_true hn)
  rcases Int.lt_or_le mo 0 with p1a | p1a
  · go_enter Tryd.func25, Tryd.ntmps25
    go_wp2
    go_ret
    exact ⟨by rw [mayB, btw_lo p1a]; simp, boxed _ _⟩
  rcases Int.lt_or_le 1048575 mo with p1b | p1b
  · go_enter Tryd.func25, Tryd.ntmps25
    go_wp2
    go_ret
    exact ⟨by rw [mayB, btw_hi p1b]; simp, boxed _ _⟩
  rcases Int.lt_or_le ap 0 with p2a | p2a
  · go_enter Tryd.func25, Tryd.ntmps25
    go_wp2
    go_ret
    exact ⟨by rw [mayB, btw_lo p2a]; simp, boxed _ _⟩
  rcases Int.lt_or_le 16 ap with p2b | p2b
  · go_enter Tryd.func25, Tryd.ntmps25
    go_wp2
    go_ret
    exact ⟨by rw [mayB, btw_hi p2b]; simp, boxed _ _⟩
  rcases Int.lt_or_le ra 0 with p3a | p3a
  · go_enter Tryd.func25, Tryd.ntmps25
    go_wp2
    go_ret
    exact ⟨by rw [mayB, btw_lo p3a]; simp, boxed _ _⟩
  rcases Int.lt_or_le 4096 ra with p3b | p3b
  · go_enter Tryd.func25, Tryd.ntmps25
    go_wp2
    go_ret
    exact ⟨by rw [mayB, btw_hi p3b]; simp, boxed _ _⟩
  rcases Int.lt_or_le wi 0 with p4a | p4a
  · go_enter Tryd.func25, Tryd.ntmps25
    go_wp2
    go_ret
    exact ⟨by rw [mayB, btw_lo p4a]; simp, boxed _ _⟩
  rcases Int.lt_or_le 2147483647 wi with p4b | p4b
  · go_enter Tryd.func25, Tryd.ntmps25
    go_wp2
    go_ret
    exact ⟨by rw [mayB, btw_hi p4b]; simp, boxed _ _⟩
  have h1 := Lib.hid (btw_ok p1a p1b)
  have h2 := Lib.hid (btw_ok p2a p2b)
  have h3 := Lib.hid (btw_ok p3a p3b)
  have h4 := Lib.hid (btw_ok p4a p4b)
  cases h5 : (wi == 0) <;> cases h6 : (ra == 0)
  · cases al
    · go_enter Tryd.func25, Tryd.ntmps25
      go_wp2
      all_goals
        go_ret
        exact ⟨by simp [mayB, h5, h6], boxed _ _⟩
    · go_enter Tryd.func25, Tryd.ntmps25
      go_wp2
      go_ret
      exact ⟨by simp [mayB, hd.out, h1.out, h2.out, h3.out, h4.out, h5, h6], boxed _ _⟩
  · go_enter Tryd.func25, Tryd.ntmps25
    go_wp2
    go_ret
    exact ⟨by simp [mayB, h5, h6], boxed _ _⟩
  · go_enter Tryd.func25, Tryd.ntmps25
    go_wp2
    go_ret
    exact ⟨by simp [mayB, h5, h6], boxed _ _⟩
  · cases al
    · cases h7 : (ap == 0)
      all_goals
        go_enter Tryd.func25, Tryd.ntmps25
        go_wp2
        go_ret
        exact ⟨by simp [mayB, hd.out, h1.out, h2.out, h3.out, h4.out, h5, h6, h7], boxed _ _⟩
    · go_enter Tryd.func25, Tryd.ntmps25
      go_wp2
      go_ret
      exact ⟨by simp [mayB, hd.out, h1.out, h2.out, h3.out, h4.out, h5, h6], boxed _ _⟩

set_option maxHeartbeats 4000000 in
theorem refRules_any (A : Option Addr) (c : Nat) (rs : List RD) (w : World) (hr : RulesIn w A rs) (hl : rs.length ≤ 2199023255552) :
    Calls Tryd.prog 15 #[.slice A rs.length c] w fun e w' => e = .returned (.int .i64 (rulesE rs)) ∧ Below w.heap.size w w' := by
  rcases Nat.lt_or_ge 64 rs.length with h64 | h64
  · go_enter Tryd.func15, Tryd.ntmps15
    go_wp2
    go_ret
    exact ⟨by rw [rulesE, if_pos h64]; rfl, Below.refl _ _⟩
  have HR := Lib.hid hr
  clear hr
  go_enter Tryd.func15, Tryd.ntmps15
  go_wp2
  go_loopw [3] (fun i wr => ∃ k : Nat, k ≤ rs.length ∧ i = .int .i64 k ∧ ((rs.take k).all mayR = true) ∧ Below w.heap.size w wr) (fun i _ => rs.length - (intOf i).toNat)
  case atStart => exact ⟨0, Nat.zero_le _, rfl, by simp, Below.refl _ _⟩
  case round =>
    obtain ⟨k, hk, rfl, hall, hB⟩ := hrel
    have hall := Lib.hid hall
    by_cases hlt : k < rs.length
    · obtain ⟨b, o, rfl, H⟩ := HR.out (by omega)
      have hR := (H k hlt).on hB
      have hs := Lib.hid (all_take_succ hlt hall.out)
      have hf := Lib.hid (all_not hlt)
      have hB := Lib.hid hB
      clear H HR
      generalize rs.getD k RD.zero = r at hR hs hf
      obtain ⟨A1, c1, x1, -, -⟩ := hR.c1
      have x0 := hR.c0
      have x2 := hR.c2
      have x3 := hR.c3
      have x4 := hR.c4
      have x5 := hR.c5
      cases hm : mayB r.al r.pf.length r.mo r.ap r.ra r.wi
      all_goals
        have hm := Lib.hid hm
        go_wp2_with fail
        refine (refMay_any r.al A1 r.pf.length c1 r.mo r.ap r.ra r.wi _).mono ?_
        rintro e w' ⟨rfl, hB2⟩
        rw [hm.out]
        have hB3 : Below w.heap.size w w' := later hB.out hB2
        clear hB2
        have hB3 := Lib.hid hB3
        go_wp2
      · go_ret
        exact ⟨by rw [rulesE, if_neg (by omega), if_neg (by rw [hf.out hm.out]; simp)]; rfl, hB3.out⟩
      · go_roundw
        case rel => exact ⟨k + 1, by omega, by go_num, hs.out hm.out, hB3.out⟩
        case measure => simp [intOf]; omega
    · have : k = rs.length := by omega
      subst this
      go_wp2
      go_ret
      exact ⟨by rw [rulesE, if_neg (by omega), if_pos (by rw [List.take_length] at hall; exact hall.out)]; rfl, hB⟩
end Go.Proofs.YtabinbeohecebaaDoor
