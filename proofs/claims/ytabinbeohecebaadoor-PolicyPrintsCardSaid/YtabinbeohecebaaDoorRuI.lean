/- The reference's Print; SameBytes and sameRules at what is the same. -/
import Derived.Test.YtabinbeohecebaaDoorRuH
namespace Go.Proofs.YtabinbeohecebaaDoor
open Go.RowKit
set_option linter.unusedVariables false
set_option linter.unusedSimpArgs false

set_option maxHeartbeats 4000000 in
theorem refPrint_bad (A : Option Addr) (c : Nat) (rs : List RD) (w : World) (hr : RulesIn w A rs) (hl : rs.length ≤ 2199023255552) (h0 : rulesE rs ≠ 0) :
    Calls Tryd.prog 6 #[.slice A rs.length c] w fun e w' => e = .returned (.tuple #[.string ⟨#[]⟩, .int .i64 (rulesE rs)]) ∧ Below w.heap.size w w' := by
  have HR := Lib.hid hr
  clear hr
  have hcase := rulesE_cases rs
  have hc := refRules_any A c rs w HR.out hl
  generalize rulesE rs = n at h0 hcase hc
  go_enter Tryd.func6, Tryd.ntmps6
  go_wp2_with fail
  refine hc.mono ?_
  rintro e w1 ⟨rfl, hB⟩
  clear hc
  rcases hcase with h | h | h
  · exact absurd h h0
  · subst h
    go_wp2
    go_ret2
    exact ⟨rfl, hB⟩
  · subst h
    go_wp2
    go_ret2
    exact ⟨rfl, hB⟩

set_option maxHeartbeats 4000000 in
theorem refPrint_good (A : Option Addr) (c : Nat) (rs : List RD) (w : World) (hr : RulesIn w A rs) (h0 : rulesE rs = 0) :
    Calls Tryd.prog 6 #[.slice A rs.length c] w fun e w' => e = .returned (.tuple #[.string ⟨(textL rs).toArray⟩, .int .i64 0]) ∧ Below w.heap.size w w' := by
  obtain ⟨h64, hall⟩ := rulesE_zero h0
  have HR := Lib.hid hr
  clear hr
  have hc := refRules_any A c rs w HR.out (by omega)
  rw [h0] at hc
  clear h0
  have hall := Lib.hid hall
  go_enter Tryd.func6, Tryd.ntmps6
  go_wp2_with fail
  refine hc.mono ?_
  rintro e w1 ⟨rfl, hB⟩
  clear hc
  go_wp2
  go_loopw [5, 6] (fun s i wr => ∃ k : Nat, k ≤ rs.length ∧ i = .int .i64 k ∧ s = .string ⟨(textL (rs.take k)).toArray⟩ ∧ Below w.heap.size w wr) (fun _ i _ => rs.length - (intOf i).toNat)
  case atStart => exact ⟨0, Nat.zero_le _, rfl, rfl, hB⟩
  case round =>
    clear hB
    obtain ⟨k, hk, rfl, rfl, hB⟩ := hrel
    by_cases hlt : k < rs.length
    · obtain ⟨b, o, rfl, H⟩ := HR.out (by omega)
      have hR := (H k hlt).on hB
      have hs := Lib.hid (textL_take_succ hlt)
      have hm : mayR (rs.getD k RD.zero) = true := mayR_at hall.out hlt
      have hlen : (textL (rs.take k)).length ≤ 20000 := by
        have h1 := textL_len (all_take hall.out k)
        have h2 : (rs.take k).length ≤ 64 := by rw [List.length_take]; omega
        omega
      have hB := Lib.hid hB
      clear H HR
      generalize textL (rs.take k) = acc at hs hlen
      generalize rs.getD k RD.zero = r at hR hs hm
      have hlr := lineL_len hm
      have hm := Lib.hid hm
      obtain ⟨A1, c1, x1, -, hbs⟩ := hR.c1
      have hbs := Lib.hid hbs
      have x0 := hR.c0
      have x2 := hR.c2
      have x3 := hR.c3
      have x4 := hR.c4
      have x5 := hR.c5
      have hR := Lib.hid hR
      go_wp2_with fail
      refine (refLine_any r.al A1 c1 r.pf r.mo r.ap r.ra r.wi _ hbs.out hm.out).mono ?_
      rintro e w2 ⟨rfl, b2⟩
      have hB2 := Lib.hid (later hB.out b2)
      clear b2
      go_wp2
      go_roundw
      case rel =>
        refine ⟨k + 1, by omega, by go_num, ?_, hB2.out⟩
        rw [hs.out]
        exact str_val (by simp [lineR])
      case measure => simp [intOf]; omega
    · have : k = rs.length := by omega
      subst this
      rw [List.take_length]
      go_wp2
      go_ret2
      exact ⟨rfl, hB⟩

set_option maxHeartbeats 4000000 in
theorem sameBytes_true (A B : Option Addr) (c d : Nat) (l : List UInt8) (w : World) (ha : Bs w A l) (hb : Bs w B l) (hl : l.length ≤ 140737488355328) :
    Calls Tryd.prog 17 #[.slice A l.length c, .slice B l.length d] w fun e w' => e = .returned (.bool true) ∧ ∃ m, w' = w.drewN m := by
  have HA := Lib.hid ha
  have HB := Lib.hid hb
  clear ha hb
  go_enter Tryd.func17, Tryd.ntmps17
  go_wp2
  go_loopw [5] (fun i wr => ∃ k : Nat, k ≤ l.length ∧ i = .int .i64 k ∧ ∃ m, wr = w.drewN m) (fun i _ => l.length - (intOf i).toNat)
  case atStart => exact ⟨0, Nat.zero_le _, rfl, 0, rfl⟩
  case round =>
    obtain ⟨k, hk, rfl, m, rfl⟩ := hrel
    by_cases hlt : k < l.length
    · obtain ⟨b, o, rfl, H⟩ := HA.out (by omega)
      obtain ⟨b2, o2, rfl, H2⟩ := HB.out (by omega)
      have x1 := (H k hlt : w.cell? ⟨b, o + k, none⟩ = _)
      have x2 := (H2 k hlt : w.cell? ⟨b2, o2 + k, none⟩ = _)
      clear H H2 HA HB
      generalize l.getD k 0 = x at x1 x2
      have k0 : (0 : Int) ≤ (k : Int) := by omega
      have k1 : (k : Int) < (l.length : Int) := by omega
      go_wp2
      go_quiet (fail)
      go_wp2
      go_roundw
      case rel => exact ⟨k + 1, by omega, by go_num, m + nq, rfl⟩
      case measure => simp [intOf]; omega
    · have : k = l.length := by omega
      subst this
      go_wp2
      go_ret
      exact ⟨rfl, m, rfl⟩

set_option maxHeartbeats 8000000 in
set_option maxRecDepth 100000 in
theorem sameRules_true (A B : Option Addr) (c d : Nat) (rs : List RD) (w : World) (ha : RulesIn w A rs) (hb : RulesIn w B rs) (hl : rs.length ≤ 2199023255552) (hp : ∀ i, (rs.getD i RD.zero).pf.length ≤ 140737488355328) :
    Calls Tryd.prog 8 #[.slice A rs.length c, .slice B rs.length d] w fun e w' => e = .returned (.bool true) ∧ Below w.heap.size w w' := by
  have HA := Lib.hid ha
  have HB := Lib.hid hb
  have HP := Lib.hid hp
  clear ha hb hp
  go_enter Tryd.func8, Tryd.ntmps8
  go_wp2
  go_loopw [5] (fun i wr => ∃ k : Nat, k ≤ rs.length ∧ i = .int .i64 k ∧ Below w.heap.size w wr) (fun i _ => rs.length - (intOf i).toNat)
  case atStart => exact ⟨0, Nat.zero_le _, rfl, Below.refl _ _⟩
  case round =>
    obtain ⟨k, hk, rfl, hB⟩ := hrel
    by_cases hlt : k < rs.length
    · obtain ⟨b, o, rfl, H⟩ := HA.out (by omega)
      obtain ⟨b2, o2, rfl, H2⟩ := HB.out (by omega)
      have hR := (H k hlt).on hB
      have hR2 := (H2 k hlt).on hB
      have hpl := HP.out k
      have hB := Lib.hid hB
      clear H H2 HA HB HP
      generalize rs.getD k RD.zero = r at hR hR2 hpl
      obtain ⟨A1, c1, x1, -, hbs⟩ := hR.c1
      have hbs := Lib.hid hbs
      have x0 := hR.c0
      have x2 := hR.c2
      have x3 := hR.c3
      have x4 := hR.c4
      have x5 := hR.c5
      obtain ⟨A2, c2, y1, -, hbs2⟩ := hR2.c1
      have hbs2 := Lib.hid hbs2
      have y0 := hR2.c0
      have y2 := hR2.c2
      have y3 := hR2.c3
      have y4 := hR2.c4
      have y5 := hR2.c5
      clear hR hR2
      have k0 : (0 : Int) ≤ (k : Int) := by omega
      have k1 : (k : Int) < (rs.length : Int) := by omega
      go_wp2_with fail
      go_quiet ((go_at_call 17; exact Calls.quiet_of (sameBytes_true _ _ _ _ _ _ (hbs.out.on (below_drewN (Below.refl _ _) _)) (hbs2.out.on (below_drewN (Below.refl _ _) _)) hpl)))
      go_wp2
      go_roundw
      case rel => exact ⟨k + 1, by omega, by go_num, below_drewN hB.out _⟩
      case measure => simp [intOf]; omega
    · have : k = rs.length := by omega
      subst this
      go_wp2
      go_ret
      exact ⟨rfl, hB⟩
end Go.Proofs.YtabinbeohecebaaDoor
