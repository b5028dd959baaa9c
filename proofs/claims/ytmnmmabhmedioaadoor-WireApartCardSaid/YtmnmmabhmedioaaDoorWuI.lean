/- Wire: a frame that is cut within its head. (Printed by gen_short.py.) -/
import Derived.Test.YtmnmmabhmedioaaDoorWsH
namespace Go.Proofs.YtmnmmabhmedioaaDoor
open Go.RowKit
set_option linter.unusedVariables false
set_option linter.unusedSimpArgs false
set_option maxRecDepth 100000

abbrev Short (w : World) (k : Int) (e : Ending) (w' : World) : Prop := ∃ q, e = Threw q ∧ w.heap.size ≤ q ∧ FaultAt w' q ⟨kFrame, k, 3⟩ ∧ Below w.heap.size w w'

set_option maxHeartbeats 8000000 in
theorem peek_s0 (b o c : Nat) (kd : UInt8) (w : World) (hk1 : 1 ≤ nb kd) (hk6 : nb kd ≤ 6) (hc : 10 ≤ c) :
    Calls Tryd.prog 37 #[.slice (some ⟨b, o, none⟩) 0 c] w (Short w 0) := by
  go_enter Tryd.func37, Tryd.ntmps37
  go_wp2_with fail
  go_loopw [4, 6] (fun _ i wr => ∃ k : Nat, k ≤ 0 ∧ i = .int .i64 k ∧ ∃ m, wr = w.drewN m) (fun _ i _ => 4 - (intOf i).toNat)
  case atStart => exact ⟨0, by omega, rfl, 0, rfl⟩
  case round =>
    obtain ⟨j, hj, rfl, m, hwr⟩ := hrel
    have hBr : Hid (Below w.heap.size w wr) := Lib.hid (by rw [hwr]; exact below_drewN (Below.refl _ _) m)
    replace hwr := Lib.hid hwr
    obtain rfl : j = 0 := by omega
    rw [show ((0 : Nat) : Int) = 0 from rfl]
    go_wp2_with fail
    refine (need_false kFrame 0 3 _).mono ?_
    rintro e w2 ⟨q, rfl, hq, hF, hB2⟩
    have hB3 := Lib.hid (later' hBr.out hB2 hBr.out.size)
    have hq2 : w.heap.size ≤ q := Nat.le_trans hBr.out.size hq
    replace hF := Lib.hid hF
    clear hBr hB2
    go_wp2_with fail
    exact ⟨rfl, q, rfl, hq2, hF.out, hB3.out⟩

set_option maxHeartbeats 8000000 in
theorem peek_s1 (b o c : Nat) (kd : UInt8) (w : World) (hk1 : 1 ≤ nb kd) (hk6 : nb kd ≤ 6) (hc : 10 ≤ c) (x0 : w.cell? ⟨b, o, none⟩ = some (.int .u8 82)) :
    Calls Tryd.prog 37 #[.slice (some ⟨b, o, none⟩) 1 c] w (Short w 1) := by
  go_enter Tryd.func37, Tryd.ntmps37
  go_wp2_with fail
  go_loopw [4, 6] (fun _ i wr => ∃ k : Nat, k ≤ 1 ∧ i = .int .i64 k ∧ ∃ m, wr = w.drewN m) (fun _ i _ => 4 - (intOf i).toNat)
  case atStart => exact ⟨0, by omega, rfl, 0, rfl⟩
  case round =>
    obtain ⟨j, hj, rfl, m, hwr⟩ := hrel
    have y0 : wr.cell? ⟨b, o, none⟩ = some (.int .u8 82) := by rw [hwr]; exact x0
    have hBr : Hid (Below w.heap.size w wr) := Lib.hid (by rw [hwr]; exact below_drewN (Below.refl _ _) m)
    replace hwr := Lib.hid hwr
    clear x0
    by_cases hj0 : j = 0
    · subst hj0
      rw [show ((0 : Nat) : Int) = 0 from rfl]
      go_wp2_with fail
      refine (need_same _ _ _ _).mono ?_
      rintro e w' ⟨rfl, rfl⟩
      go_wp2_with fail
      go_quiet ((go_at_call 38; exact Calls.quiet_of_same (need_same _ _ _ _)))
      go_wp2_with fail
      exact ⟨⟨1, by omega, rfl, m + nq, by rw [hwr.out, World.drewN_drewN]⟩, by simp [intOf]⟩
    obtain rfl : j = 1 := by omega
    rw [show ((1 : Nat) : Int) = 1 from rfl]
    go_wp2_with fail
    refine (need_false kFrame 1 3 _).mono ?_
    rintro e w2 ⟨q, rfl, hq, hF, hB2⟩
    have hB3 := Lib.hid (later' hBr.out hB2 hBr.out.size)
    have hq2 : w.heap.size ≤ q := Nat.le_trans hBr.out.size hq
    replace hF := Lib.hid hF
    clear hBr hB2
    go_wp2_with fail
    exact ⟨rfl, q, rfl, hq2, hF.out, hB3.out⟩

set_option maxHeartbeats 8000000 in
theorem peek_s2 (b o c : Nat) (kd : UInt8) (w : World) (hk1 : 1 ≤ nb kd) (hk6 : nb kd ≤ 6) (hc : 10 ≤ c) (x0 : w.cell? ⟨b, o, none⟩ = some (.int .u8 82)) (x1 : w.cell? ⟨b, o + 1, none⟩ = some (.int .u8 73)) :
    Calls Tryd.prog 37 #[.slice (some ⟨b, o, none⟩) 2 c] w (Short w 2) := by
  go_enter Tryd.func37, Tryd.ntmps37
  go_wp2_with fail
  go_loopw [4, 6] (fun _ i wr => ∃ k : Nat, k ≤ 2 ∧ i = .int .i64 k ∧ ∃ m, wr = w.drewN m) (fun _ i _ => 4 - (intOf i).toNat)
  case atStart => exact ⟨0, by omega, rfl, 0, rfl⟩
  case round =>
    obtain ⟨j, hj, rfl, m, hwr⟩ := hrel
    have y0 : wr.cell? ⟨b, o, none⟩ = some (.int .u8 82) := by rw [hwr]; exact x0
    have y1 : wr.cell? ⟨b, o + 1, none⟩ = some (.int .u8 73) := by rw [hwr]; exact x1
    have hBr : Hid (Below w.heap.size w wr) := Lib.hid (by rw [hwr]; exact below_drewN (Below.refl _ _) m)
    replace hwr := Lib.hid hwr
    clear x0 x1
    by_cases hj0 : j = 0
    · subst hj0
      rw [show ((0 : Nat) : Int) = 0 from rfl]
      go_wp2_with fail
      refine (need_same _ _ _ _).mono ?_
      rintro e w' ⟨rfl, rfl⟩
      go_wp2_with fail
      go_quiet ((go_at_call 38; exact Calls.quiet_of_same (need_same _ _ _ _)))
      go_wp2_with fail
      exact ⟨⟨1, by omega, rfl, m + nq, by rw [hwr.out, World.drewN_drewN]⟩, by simp [intOf]⟩
    by_cases hj1 : j = 1
    · subst hj1
      rw [show ((1 : Nat) : Int) = 1 from rfl]
      go_wp2_with fail
      refine (need_same _ _ _ _).mono ?_
      rintro e w' ⟨rfl, rfl⟩
      go_wp2_with fail
      go_quiet ((go_at_call 38; exact Calls.quiet_of_same (need_same _ _ _ _)))
      go_wp2_with fail
      exact ⟨⟨2, by omega, rfl, m + nq, by rw [hwr.out, World.drewN_drewN]⟩, by simp [intOf]⟩
    obtain rfl : j = 2 := by omega
    rw [show ((2 : Nat) : Int) = 2 from rfl]
    go_wp2_with fail
    refine (need_false kFrame 2 3 _).mono ?_
    rintro e w2 ⟨q, rfl, hq, hF, hB2⟩
    have hB3 := Lib.hid (later' hBr.out hB2 hBr.out.size)
    have hq2 : w.heap.size ≤ q := Nat.le_trans hBr.out.size hq
    replace hF := Lib.hid hF
    clear hBr hB2
    go_wp2_with fail
    exact ⟨rfl, q, rfl, hq2, hF.out, hB3.out⟩

set_option maxHeartbeats 8000000 in
theorem peek_s3 (b o c : Nat) (kd : UInt8) (w : World) (hk1 : 1 ≤ nb kd) (hk6 : nb kd ≤ 6) (hc : 10 ≤ c) (x0 : w.cell? ⟨b, o, none⟩ = some (.int .u8 82)) (x1 : w.cell? ⟨b, o + 1, none⟩ = some (.int .u8 73)) (x2 : w.cell? ⟨b, o + 2, none⟩ = some (.int .u8 77)) :
    Calls Tryd.prog 37 #[.slice (some ⟨b, o, none⟩) 3 c] w (Short w 3) := by
  go_enter Tryd.func37, Tryd.ntmps37
  go_wp2_with fail
  go_loopw [4, 6] (fun _ i wr => ∃ k : Nat, k ≤ 3 ∧ i = .int .i64 k ∧ ∃ m, wr = w.drewN m) (fun _ i _ => 4 - (intOf i).toNat)
  case atStart => exact ⟨0, by omega, rfl, 0, rfl⟩
  case round =>
    obtain ⟨j, hj, rfl, m, hwr⟩ := hrel
    have y0 : wr.cell? ⟨b, o, none⟩ = some (.int .u8 82) := by rw [hwr]; exact x0
    have y1 : wr.cell? ⟨b, o + 1, none⟩ = some (.int .u8 73) := by rw [hwr]; exact x1
    have y2 : wr.cell? ⟨b, o + 2, none⟩ = some (.int .u8 77) := by rw [hwr]; exact x2
    have hBr : Hid (Below w.heap.size w wr) := Lib.hid (by rw [hwr]; exact below_drewN (Below.refl _ _) m)
    replace hwr := Lib.hid hwr
    clear x0 x1 x2
    by_cases hj0 : j = 0
    · subst hj0
      rw [show ((0 : Nat) : Int) = 0 from rfl]
      go_wp2_with fail
      refine (need_same _ _ _ _).mono ?_
      rintro e w' ⟨rfl, rfl⟩
      go_wp2_with fail
      go_quiet ((go_at_call 38; exact Calls.quiet_of_same (need_same _ _ _ _)))
      go_wp2_with fail
      exact ⟨⟨1, by omega, rfl, m + nq, by rw [hwr.out, World.drewN_drewN]⟩, by simp [intOf]⟩
    by_cases hj1 : j = 1
    · subst hj1
      rw [show ((1 : Nat) : Int) = 1 from rfl]
      go_wp2_with fail
      refine (need_same _ _ _ _).mono ?_
      rintro e w' ⟨rfl, rfl⟩
      go_wp2_with fail
      go_quiet ((go_at_call 38; exact Calls.quiet_of_same (need_same _ _ _ _)))
      go_wp2_with fail
      exact ⟨⟨2, by omega, rfl, m + nq, by rw [hwr.out, World.drewN_drewN]⟩, by simp [intOf]⟩
    by_cases hj2 : j = 2
    · subst hj2
      rw [show ((2 : Nat) : Int) = 2 from rfl]
      go_wp2_with fail
      refine (need_same _ _ _ _).mono ?_
      rintro e w' ⟨rfl, rfl⟩
      go_wp2_with fail
      go_quiet ((go_at_call 38; exact Calls.quiet_of_same (need_same _ _ _ _)))
      go_wp2_with fail
      exact ⟨⟨3, by omega, rfl, m + nq, by rw [hwr.out, World.drewN_drewN]⟩, by simp [intOf]⟩
    obtain rfl : j = 3 := by omega
    rw [show ((3 : Nat) : Int) = 3 from rfl]
    go_wp2_with fail
    refine (need_false kFrame 3 3 _).mono ?_
    rintro e w2 ⟨q, rfl, hq, hF, hB2⟩
    have hB3 := Lib.hid (later' hBr.out hB2 hBr.out.size)
    have hq2 : w.heap.size ≤ q := Nat.le_trans hBr.out.size hq
    replace hF := Lib.hid hF
    clear hBr hB2
    go_wp2_with fail
    exact ⟨rfl, q, rfl, hq2, hF.out, hB3.out⟩

set_option maxHeartbeats 8000000 in
theorem peek_s4 (b o c : Nat) (kd : UInt8) (w : World) (hk1 : 1 ≤ nb kd) (hk6 : nb kd ≤ 6) (hc : 10 ≤ c) (x0 : w.cell? ⟨b, o, none⟩ = some (.int .u8 82)) (x1 : w.cell? ⟨b, o + 1, none⟩ = some (.int .u8 73)) (x2 : w.cell? ⟨b, o + 2, none⟩ = some (.int .u8 77)) (x3 : w.cell? ⟨b, o + 3, none⟩ = some (.int .u8 69)) :
    Calls Tryd.prog 37 #[.slice (some ⟨b, o, none⟩) 4 c] w (Short w 4) := by
  go_enter Tryd.func37, Tryd.ntmps37
  go_wp2_with fail
  go_loopw [4, 6] (fun _ i wr => ∃ k : Nat, k ≤ 4 ∧ i = .int .i64 k ∧ ∃ m, wr = w.drewN m) (fun _ i _ => 4 - (intOf i).toNat)
  case atStart => exact ⟨0, by omega, rfl, 0, rfl⟩
  case round =>
    obtain ⟨j, hj, rfl, m, hwr⟩ := hrel
    have y0 : wr.cell? ⟨b, o, none⟩ = some (.int .u8 82) := by rw [hwr]; exact x0
    have y1 : wr.cell? ⟨b, o + 1, none⟩ = some (.int .u8 73) := by rw [hwr]; exact x1
    have y2 : wr.cell? ⟨b, o + 2, none⟩ = some (.int .u8 77) := by rw [hwr]; exact x2
    have y3 : wr.cell? ⟨b, o + 3, none⟩ = some (.int .u8 69) := by rw [hwr]; exact x3
    have hBr : Hid (Below w.heap.size w wr) := Lib.hid (by rw [hwr]; exact below_drewN (Below.refl _ _) m)
    replace hwr := Lib.hid hwr
    clear x0 x1 x2 x3
    by_cases hj0 : j = 0
    · subst hj0
      rw [show ((0 : Nat) : Int) = 0 from rfl]
      go_wp2_with fail
      refine (need_same _ _ _ _).mono ?_
      rintro e w' ⟨rfl, rfl⟩
      go_wp2_with fail
      go_quiet ((go_at_call 38; exact Calls.quiet_of_same (need_same _ _ _ _)))
      go_wp2_with fail
      exact ⟨⟨1, by omega, rfl, m + nq, by rw [hwr.out, World.drewN_drewN]⟩, by simp [intOf]⟩
    by_cases hj1 : j = 1
    · subst hj1
      rw [show ((1 : Nat) : Int) = 1 from rfl]
      go_wp2_with fail
      refine (need_same _ _ _ _).mono ?_
      rintro e w' ⟨rfl, rfl⟩
      go_wp2_with fail
      go_quiet ((go_at_call 38; exact Calls.quiet_of_same (need_same _ _ _ _)))
      go_wp2_with fail
      exact ⟨⟨2, by omega, rfl, m + nq, by rw [hwr.out, World.drewN_drewN]⟩, by simp [intOf]⟩
    by_cases hj2 : j = 2
    · subst hj2
      rw [show ((2 : Nat) : Int) = 2 from rfl]
      go_wp2_with fail
      refine (need_same _ _ _ _).mono ?_
      rintro e w' ⟨rfl, rfl⟩
      go_wp2_with fail
      go_quiet ((go_at_call 38; exact Calls.quiet_of_same (need_same _ _ _ _)))
      go_wp2_with fail
      exact ⟨⟨3, by omega, rfl, m + nq, by rw [hwr.out, World.drewN_drewN]⟩, by simp [intOf]⟩
    by_cases hj3 : j = 3
    · subst hj3
      rw [show ((3 : Nat) : Int) = 3 from rfl]
      go_wp2_with fail
      refine (need_same _ _ _ _).mono ?_
      rintro e w' ⟨rfl, rfl⟩
      go_wp2_with fail
      go_quiet ((go_at_call 38; exact Calls.quiet_of_same (need_same _ _ _ _)))
      go_wp2_with fail
      exact ⟨⟨4, by omega, rfl, m + nq, by rw [hwr.out, World.drewN_drewN]⟩, by simp [intOf]⟩
    obtain rfl : j = 4 := by omega
    rw [show ((4 : Nat) : Int) = 4 from rfl]
    go_wp2_with fail
    refine (need_false kFrame 4 3 _).mono ?_
    rintro e w2 ⟨q, rfl, hq, hF, hB2⟩
    have hB3 := Lib.hid (later' hBr.out hB2 hBr.out.size)
    have hq2 : w.heap.size ≤ q := Nat.le_trans hBr.out.size hq
    replace hF := Lib.hid hF
    clear hBr hB2
    go_wp2_with fail
    exact ⟨rfl, q, rfl, hq2, hF.out, hB3.out⟩

set_option maxHeartbeats 8000000 in
theorem peek_s5 (b o c : Nat) (kd : UInt8) (w : World) (hk1 : 1 ≤ nb kd) (hk6 : nb kd ≤ 6) (hc : 10 ≤ c) (x0 : w.cell? ⟨b, o, none⟩ = some (.int .u8 82)) (x1 : w.cell? ⟨b, o + 1, none⟩ = some (.int .u8 73)) (x2 : w.cell? ⟨b, o + 2, none⟩ = some (.int .u8 77)) (x3 : w.cell? ⟨b, o + 3, none⟩ = some (.int .u8 69)) (x4 : w.cell? ⟨b, o + 4, none⟩ = some (.int .u8 1)) :
    Calls Tryd.prog 37 #[.slice (some ⟨b, o, none⟩) 5 c] w (Short w 5) := by
  go_enter Tryd.func37, Tryd.ntmps37
  go_wp2_with fail
  go_loopw [4, 6] (fun _ i wr => ∃ k : Nat, k ≤ 4 ∧ i = .int .i64 k ∧ ∃ m, wr = w.drewN m) (fun _ i _ => 4 - (intOf i).toNat)
  case atStart => exact ⟨0, by omega, rfl, 0, rfl⟩
  case round =>
    obtain ⟨j, hj, rfl, m, hwr⟩ := hrel
    have y0 : wr.cell? ⟨b, o, none⟩ = some (.int .u8 82) := by rw [hwr]; exact x0
    have y1 : wr.cell? ⟨b, o + 1, none⟩ = some (.int .u8 73) := by rw [hwr]; exact x1
    have y2 : wr.cell? ⟨b, o + 2, none⟩ = some (.int .u8 77) := by rw [hwr]; exact x2
    have y3 : wr.cell? ⟨b, o + 3, none⟩ = some (.int .u8 69) := by rw [hwr]; exact x3
    have y4 : wr.cell? ⟨b, o + 4, none⟩ = some (.int .u8 1) := by rw [hwr]; exact x4
    have hBr : Hid (Below w.heap.size w wr) := Lib.hid (by rw [hwr]; exact below_drewN (Below.refl _ _) m)
    replace hwr := Lib.hid hwr
    clear x0 x1 x2 x3 x4
    by_cases hj0 : j = 0
    · subst hj0
      rw [show ((0 : Nat) : Int) = 0 from rfl]
      go_wp2_with fail
      refine (need_same _ _ _ _).mono ?_
      rintro e w' ⟨rfl, rfl⟩
      go_wp2_with fail
      go_quiet ((go_at_call 38; exact Calls.quiet_of_same (need_same _ _ _ _)))
      go_wp2_with fail
      exact ⟨⟨1, by omega, rfl, m + nq, by rw [hwr.out, World.drewN_drewN]⟩, by simp [intOf]⟩
    by_cases hj1 : j = 1
    · subst hj1
      rw [show ((1 : Nat) : Int) = 1 from rfl]
      go_wp2_with fail
      refine (need_same _ _ _ _).mono ?_
      rintro e w' ⟨rfl, rfl⟩
      go_wp2_with fail
      go_quiet ((go_at_call 38; exact Calls.quiet_of_same (need_same _ _ _ _)))
      go_wp2_with fail
      exact ⟨⟨2, by omega, rfl, m + nq, by rw [hwr.out, World.drewN_drewN]⟩, by simp [intOf]⟩
    by_cases hj2 : j = 2
    · subst hj2
      rw [show ((2 : Nat) : Int) = 2 from rfl]
      go_wp2_with fail
      refine (need_same _ _ _ _).mono ?_
      rintro e w' ⟨rfl, rfl⟩
      go_wp2_with fail
      go_quiet ((go_at_call 38; exact Calls.quiet_of_same (need_same _ _ _ _)))
      go_wp2_with fail
      exact ⟨⟨3, by omega, rfl, m + nq, by rw [hwr.out, World.drewN_drewN]⟩, by simp [intOf]⟩
    by_cases hj3 : j = 3
    · subst hj3
      rw [show ((3 : Nat) : Int) = 3 from rfl]
      go_wp2_with fail
      refine (need_same _ _ _ _).mono ?_
      rintro e w' ⟨rfl, rfl⟩
      go_wp2_with fail
      go_quiet ((go_at_call 38; exact Calls.quiet_of_same (need_same _ _ _ _)))
      go_wp2_with fail
      exact ⟨⟨4, by omega, rfl, m + nq, by rw [hwr.out, World.drewN_drewN]⟩, by simp [intOf]⟩
    obtain rfl : j = 4 := by omega
    rw [show ((4 : Nat) : Int) = 4 from rfl]
    go_wp2_with fail
    refine (need_same _ _ _ _).mono ?_
    rintro e w' ⟨rfl, rfl⟩
    go_wp2_with fail
    refine (need_same _ _ _ _).mono ?_
    rintro e w' ⟨rfl, rfl⟩
    go_wp2_with fail
    refine (need_false kFrame 5 3 _).mono ?_
    rintro e w2 ⟨q, rfl, hq, hF, hB2⟩
    have hB3 := Lib.hid (later' hBr.out hB2 hBr.out.size)
    have hq2 : w.heap.size ≤ q := Nat.le_trans hBr.out.size hq
    replace hF := Lib.hid hF
    clear hBr hB2
    go_wp2_with fail
    exact ⟨rfl, q, rfl, hq2, hF.out, hB3.out⟩

set_option maxHeartbeats 8000000 in
theorem peek_s6 (b o c : Nat) (kd : UInt8) (w : World) (hk1 : 1 ≤ nb kd) (hk6 : nb kd ≤ 6) (hc : 10 ≤ c) (x0 : w.cell? ⟨b, o, none⟩ = some (.int .u8 82)) (x1 : w.cell? ⟨b, o + 1, none⟩ = some (.int .u8 73)) (x2 : w.cell? ⟨b, o + 2, none⟩ = some (.int .u8 77)) (x3 : w.cell? ⟨b, o + 3, none⟩ = some (.int .u8 69)) (x4 : w.cell? ⟨b, o + 4, none⟩ = some (.int .u8 1)) (x5 : w.cell? ⟨b, o + 5, none⟩ = some (.int .u8 (nb kd))) :
    Calls Tryd.prog 37 #[.slice (some ⟨b, o, none⟩) 6 c] w (Short w 6) := by
  go_enter Tryd.func37, Tryd.ntmps37
  go_wp2_with fail
  go_loopw [4, 6] (fun _ i wr => ∃ k : Nat, k ≤ 4 ∧ i = .int .i64 k ∧ ∃ m, wr = w.drewN m) (fun _ i _ => 4 - (intOf i).toNat)
  case atStart => exact ⟨0, by omega, rfl, 0, rfl⟩
  case round =>
    obtain ⟨j, hj, rfl, m, hwr⟩ := hrel
    have y0 : wr.cell? ⟨b, o, none⟩ = some (.int .u8 82) := by rw [hwr]; exact x0
    have y1 : wr.cell? ⟨b, o + 1, none⟩ = some (.int .u8 73) := by rw [hwr]; exact x1
    have y2 : wr.cell? ⟨b, o + 2, none⟩ = some (.int .u8 77) := by rw [hwr]; exact x2
    have y3 : wr.cell? ⟨b, o + 3, none⟩ = some (.int .u8 69) := by rw [hwr]; exact x3
    have y4 : wr.cell? ⟨b, o + 4, none⟩ = some (.int .u8 1) := by rw [hwr]; exact x4
    have y5 : wr.cell? ⟨b, o + 5, none⟩ = some (.int .u8 (nb kd)) := by rw [hwr]; exact x5
    have hBr : Hid (Below w.heap.size w wr) := Lib.hid (by rw [hwr]; exact below_drewN (Below.refl _ _) m)
    replace hwr := Lib.hid hwr
    clear x0 x1 x2 x3 x4 x5
    by_cases hj0 : j = 0
    · subst hj0
      rw [show ((0 : Nat) : Int) = 0 from rfl]
      go_wp2_with fail
      refine (need_same _ _ _ _).mono ?_
      rintro e w' ⟨rfl, rfl⟩
      go_wp2_with fail
      go_quiet ((go_at_call 38; exact Calls.quiet_of_same (need_same _ _ _ _)))
      go_wp2_with fail
      exact ⟨⟨1, by omega, rfl, m + nq, by rw [hwr.out, World.drewN_drewN]⟩, by simp [intOf]⟩
    by_cases hj1 : j = 1
    · subst hj1
      rw [show ((1 : Nat) : Int) = 1 from rfl]
      go_wp2_with fail
      refine (need_same _ _ _ _).mono ?_
      rintro e w' ⟨rfl, rfl⟩
      go_wp2_with fail
      go_quiet ((go_at_call 38; exact Calls.quiet_of_same (need_same _ _ _ _)))
      go_wp2_with fail
      exact ⟨⟨2, by omega, rfl, m + nq, by rw [hwr.out, World.drewN_drewN]⟩, by simp [intOf]⟩
    by_cases hj2 : j = 2
    · subst hj2
      rw [show ((2 : Nat) : Int) = 2 from rfl]
      go_wp2_with fail
      refine (need_same _ _ _ _).mono ?_
      rintro e w' ⟨rfl, rfl⟩
      go_wp2_with fail
      go_quiet ((go_at_call 38; exact Calls.quiet_of_same (need_same _ _ _ _)))
      go_wp2_with fail
      exact ⟨⟨3, by omega, rfl, m + nq, by rw [hwr.out, World.drewN_drewN]⟩, by simp [intOf]⟩
    by_cases hj3 : j = 3
    · subst hj3
      rw [show ((3 : Nat) : Int) = 3 from rfl]
      go_wp2_with fail
      refine (need_same _ _ _ _).mono ?_
      rintro e w' ⟨rfl, rfl⟩
      go_wp2_with fail
      go_quiet ((go_at_call 38; exact Calls.quiet_of_same (need_same _ _ _ _)))
      go_wp2_with fail
      exact ⟨⟨4, by omega, rfl, m + nq, by rw [hwr.out, World.drewN_drewN]⟩, by simp [intOf]⟩
    obtain rfl : j = 4 := by omega
    rw [show ((4 : Nat) : Int) = 4 from rfl]
    go_wp2_with fail
    refine (need_same _ _ _ _).mono ?_
    rintro e w' ⟨rfl, rfl⟩
    go_wp2_with fail
    refine (need_same _ _ _ _).mono ?_
    rintro e w' ⟨rfl, rfl⟩
    go_wp2_with fail
    refine (need_same _ _ _ _).mono ?_
    rintro e w' ⟨rfl, rfl⟩
    go_wp2_with fail
    refine (need_same _ _ _ _).mono ?_
    rintro e w' ⟨rfl, rfl⟩
    go_wp2_with fail
    refine (need_false kFrame 6 3 _).mono ?_
    rintro e w2 ⟨q, rfl, hq, hF, hB2⟩
    have hB3 := Lib.hid (later' hBr.out hB2 hBr.out.size)
    have hq2 : w.heap.size ≤ q := Nat.le_trans hBr.out.size hq
    replace hF := Lib.hid hF
    clear hBr hB2
    go_wp2_with fail
    exact ⟨rfl, q, rfl, hq2, hF.out, hB3.out⟩

set_option maxHeartbeats 8000000 in
theorem peek_s7 (b o c : Nat) (kd : UInt8) (w : World) (hk1 : 1 ≤ nb kd) (hk6 : nb kd ≤ 6) (hc : 10 ≤ c) (x0 : w.cell? ⟨b, o, none⟩ = some (.int .u8 82)) (x1 : w.cell? ⟨b, o + 1, none⟩ = some (.int .u8 73)) (x2 : w.cell? ⟨b, o + 2, none⟩ = some (.int .u8 77)) (x3 : w.cell? ⟨b, o + 3, none⟩ = some (.int .u8 69)) (x4 : w.cell? ⟨b, o + 4, none⟩ = some (.int .u8 1)) (x5 : w.cell? ⟨b, o + 5, none⟩ = some (.int .u8 (nb kd))) :
    Calls Tryd.prog 37 #[.slice (some ⟨b, o, none⟩) 7 c] w (Short w 7) := by
  go_enter Tryd.func37, Tryd.ntmps37
  go_wp2_with fail
  go_loopw [4, 6] (fun _ i wr => ∃ k : Nat, k ≤ 4 ∧ i = .int .i64 k ∧ ∃ m, wr = w.drewN m) (fun _ i _ => 4 - (intOf i).toNat)
  case atStart => exact ⟨0, by omega, rfl, 0, rfl⟩
  case round =>
    obtain ⟨j, hj, rfl, m, hwr⟩ := hrel
    have y0 : wr.cell? ⟨b, o, none⟩ = some (.int .u8 82) := by rw [hwr]; exact x0
    have y1 : wr.cell? ⟨b, o + 1, none⟩ = some (.int .u8 73) := by rw [hwr]; exact x1
    have y2 : wr.cell? ⟨b, o + 2, none⟩ = some (.int .u8 77) := by rw [hwr]; exact x2
    have y3 : wr.cell? ⟨b, o + 3, none⟩ = some (.int .u8 69) := by rw [hwr]; exact x3
    have y4 : wr.cell? ⟨b, o + 4, none⟩ = some (.int .u8 1) := by rw [hwr]; exact x4
    have y5 : wr.cell? ⟨b, o + 5, none⟩ = some (.int .u8 (nb kd)) := by rw [hwr]; exact x5
    have hBr : Hid (Below w.heap.size w wr) := Lib.hid (by rw [hwr]; exact below_drewN (Below.refl _ _) m)
    replace hwr := Lib.hid hwr
    clear x0 x1 x2 x3 x4 x5
    by_cases hj0 : j = 0
    · subst hj0
      rw [show ((0 : Nat) : Int) = 0 from rfl]
      go_wp2_with fail
      refine (need_same _ _ _ _).mono ?_
      rintro e w' ⟨rfl, rfl⟩
      go_wp2_with fail
      go_quiet ((go_at_call 38; exact Calls.quiet_of_same (need_same _ _ _ _)))
      go_wp2_with fail
      exact ⟨⟨1, by omega, rfl, m + nq, by rw [hwr.out, World.drewN_drewN]⟩, by simp [intOf]⟩
    by_cases hj1 : j = 1
    · subst hj1
      rw [show ((1 : Nat) : Int) = 1 from rfl]
      go_wp2_with fail
      refine (need_same _ _ _ _).mono ?_
      rintro e w' ⟨rfl, rfl⟩
      go_wp2_with fail
      go_quiet ((go_at_call 38; exact Calls.quiet_of_same (need_same _ _ _ _)))
      go_wp2_with fail
      exact ⟨⟨2, by omega, rfl, m + nq, by rw [hwr.out, World.drewN_drewN]⟩, by simp [intOf]⟩
    by_cases hj2 : j = 2
    · subst hj2
      rw [show ((2 : Nat) : Int) = 2 from rfl]
      go_wp2_with fail
      refine (need_same _ _ _ _).mono ?_
      rintro e w' ⟨rfl, rfl⟩
      go_wp2_with fail
      go_quiet ((go_at_call 38; exact Calls.quiet_of_same (need_same _ _ _ _)))
      go_wp2_with fail
      exact ⟨⟨3, by omega, rfl, m + nq, by rw [hwr.out, World.drewN_drewN]⟩, by simp [intOf]⟩
    by_cases hj3 : j = 3
    · subst hj3
      rw [show ((3 : Nat) : Int) = 3 from rfl]
      go_wp2_with fail
      refine (need_same _ _ _ _).mono ?_
      rintro e w' ⟨rfl, rfl⟩
      go_wp2_with fail
      go_quiet ((go_at_call 38; exact Calls.quiet_of_same (need_same _ _ _ _)))
      go_wp2_with fail
      exact ⟨⟨4, by omega, rfl, m + nq, by rw [hwr.out, World.drewN_drewN]⟩, by simp [intOf]⟩
    obtain rfl : j = 4 := by omega
    rw [show ((4 : Nat) : Int) = 4 from rfl]
    go_wp2_with fail
    refine (need_same _ _ _ _).mono ?_
    rintro e w' ⟨rfl, rfl⟩
    go_wp2_with fail
    refine (need_same _ _ _ _).mono ?_
    rintro e w' ⟨rfl, rfl⟩
    go_wp2_with fail
    refine (need_same _ _ _ _).mono ?_
    rintro e w' ⟨rfl, rfl⟩
    go_wp2_with fail
    refine (need_same _ _ _ _).mono ?_
    rintro e w' ⟨rfl, rfl⟩
    go_wp2_with fail
    refine (need_false kFrame 7 3 _).mono ?_
    rintro e w2 ⟨q, rfl, hq, hF, hB2⟩
    have hB3 := Lib.hid (later' hBr.out hB2 hBr.out.size)
    have hq2 : w.heap.size ≤ q := Nat.le_trans hBr.out.size hq
    replace hF := Lib.hid hF
    clear hBr hB2
    go_wp2_with fail
    exact ⟨rfl, q, rfl, hq2, hF.out, hB3.out⟩

set_option maxHeartbeats 8000000 in
theorem peek_s8 (b o c : Nat) (kd : UInt8) (w : World) (hk1 : 1 ≤ nb kd) (hk6 : nb kd ≤ 6) (hc : 10 ≤ c) (x0 : w.cell? ⟨b, o, none⟩ = some (.int .u8 82)) (x1 : w.cell? ⟨b, o + 1, none⟩ = some (.int .u8 73)) (x2 : w.cell? ⟨b, o + 2, none⟩ = some (.int .u8 77)) (x3 : w.cell? ⟨b, o + 3, none⟩ = some (.int .u8 69)) (x4 : w.cell? ⟨b, o + 4, none⟩ = some (.int .u8 1)) (x5 : w.cell? ⟨b, o + 5, none⟩ = some (.int .u8 (nb kd))) :
    Calls Tryd.prog 37 #[.slice (some ⟨b, o, none⟩) 8 c] w (Short w 8) := by
  go_enter Tryd.func37, Tryd.ntmps37
  go_wp2_with fail
  go_loopw [4, 6] (fun _ i wr => ∃ k : Nat, k ≤ 4 ∧ i = .int .i64 k ∧ ∃ m, wr = w.drewN m) (fun _ i _ => 4 - (intOf i).toNat)
  case atStart => exact ⟨0, by omega, rfl, 0, rfl⟩
  case round =>
    obtain ⟨j, hj, rfl, m, hwr⟩ := hrel
    have y0 : wr.cell? ⟨b, o, none⟩ = some (.int .u8 82) := by rw [hwr]; exact x0
    have y1 : wr.cell? ⟨b, o + 1, none⟩ = some (.int .u8 73) := by rw [hwr]; exact x1
    have y2 : wr.cell? ⟨b, o + 2, none⟩ = some (.int .u8 77) := by rw [hwr]; exact x2
    have y3 : wr.cell? ⟨b, o + 3, none⟩ = some (.int .u8 69) := by rw [hwr]; exact x3
    have y4 : wr.cell? ⟨b, o + 4, none⟩ = some (.int .u8 1) := by rw [hwr]; exact x4
    have y5 : wr.cell? ⟨b, o + 5, none⟩ = some (.int .u8 (nb kd)) := by rw [hwr]; exact x5
    have hBr : Hid (Below w.heap.size w wr) := Lib.hid (by rw [hwr]; exact below_drewN (Below.refl _ _) m)
    replace hwr := Lib.hid hwr
    clear x0 x1 x2 x3 x4 x5
    by_cases hj0 : j = 0
    · subst hj0
      rw [show ((0 : Nat) : Int) = 0 from rfl]
      go_wp2_with fail
      refine (need_same _ _ _ _).mono ?_
      rintro e w' ⟨rfl, rfl⟩
      go_wp2_with fail
      go_quiet ((go_at_call 38; exact Calls.quiet_of_same (need_same _ _ _ _)))
      go_wp2_with fail
      exact ⟨⟨1, by omega, rfl, m + nq, by rw [hwr.out, World.drewN_drewN]⟩, by simp [intOf]⟩
    by_cases hj1 : j = 1
    · subst hj1
      rw [show ((1 : Nat) : Int) = 1 from rfl]
      go_wp2_with fail
      refine (need_same _ _ _ _).mono ?_
      rintro e w' ⟨rfl, rfl⟩
      go_wp2_with fail
      go_quiet ((go_at_call 38; exact Calls.quiet_of_same (need_same _ _ _ _)))
      go_wp2_with fail
      exact ⟨⟨2, by omega, rfl, m + nq, by rw [hwr.out, World.drewN_drewN]⟩, by simp [intOf]⟩
    by_cases hj2 : j = 2
    · subst hj2
      rw [show ((2 : Nat) : Int) = 2 from rfl]
      go_wp2_with fail
      refine (need_same _ _ _ _).mono ?_
      rintro e w' ⟨rfl, rfl⟩
      go_wp2_with fail
      go_quiet ((go_at_call 38; exact Calls.quiet_of_same (need_same _ _ _ _)))
      go_wp2_with fail
      exact ⟨⟨3, by omega, rfl, m + nq, by rw [hwr.out, World.drewN_drewN]⟩, by simp [intOf]⟩
    by_cases hj3 : j = 3
    · subst hj3
      rw [show ((3 : Nat) : Int) = 3 from rfl]
      go_wp2_with fail
      refine (need_same _ _ _ _).mono ?_
      rintro e w' ⟨rfl, rfl⟩
      go_wp2_with fail
      go_quiet ((go_at_call 38; exact Calls.quiet_of_same (need_same _ _ _ _)))
      go_wp2_with fail
      exact ⟨⟨4, by omega, rfl, m + nq, by rw [hwr.out, World.drewN_drewN]⟩, by simp [intOf]⟩
    obtain rfl : j = 4 := by omega
    rw [show ((4 : Nat) : Int) = 4 from rfl]
    go_wp2_with fail
    refine (need_same _ _ _ _).mono ?_
    rintro e w' ⟨rfl, rfl⟩
    go_wp2_with fail
    refine (need_same _ _ _ _).mono ?_
    rintro e w' ⟨rfl, rfl⟩
    go_wp2_with fail
    refine (need_same _ _ _ _).mono ?_
    rintro e w' ⟨rfl, rfl⟩
    go_wp2_with fail
    refine (need_same _ _ _ _).mono ?_
    rintro e w' ⟨rfl, rfl⟩
    go_wp2_with fail
    refine (need_false kFrame 8 3 _).mono ?_
    rintro e w2 ⟨q, rfl, hq, hF, hB2⟩
    have hB3 := Lib.hid (later' hBr.out hB2 hBr.out.size)
    have hq2 : w.heap.size ≤ q := Nat.le_trans hBr.out.size hq
    replace hF := Lib.hid hF
    clear hBr hB2
    go_wp2_with fail
    exact ⟨rfl, q, rfl, hq2, hF.out, hB3.out⟩

set_option maxHeartbeats 8000000 in
theorem peek_s9 (b o c : Nat) (kd : UInt8) (w : World) (hk1 : 1 ≤ nb kd) (hk6 : nb kd ≤ 6) (hc : 10 ≤ c) (x0 : w.cell? ⟨b, o, none⟩ = some (.int .u8 82)) (x1 : w.cell? ⟨b, o + 1, none⟩ = some (.int .u8 73)) (x2 : w.cell? ⟨b, o + 2, none⟩ = some (.int .u8 77)) (x3 : w.cell? ⟨b, o + 3, none⟩ = some (.int .u8 69)) (x4 : w.cell? ⟨b, o + 4, none⟩ = some (.int .u8 1)) (x5 : w.cell? ⟨b, o + 5, none⟩ = some (.int .u8 (nb kd))) :
    Calls Tryd.prog 37 #[.slice (some ⟨b, o, none⟩) 9 c] w (Short w 9) := by
  go_enter Tryd.func37, Tryd.ntmps37
  go_wp2_with fail
  go_loopw [4, 6] (fun _ i wr => ∃ k : Nat, k ≤ 4 ∧ i = .int .i64 k ∧ ∃ m, wr = w.drewN m) (fun _ i _ => 4 - (intOf i).toNat)
  case atStart => exact ⟨0, by omega, rfl, 0, rfl⟩
  case round =>
    obtain ⟨j, hj, rfl, m, hwr⟩ := hrel
    have y0 : wr.cell? ⟨b, o, none⟩ = some (.int .u8 82) := by rw [hwr]; exact x0
    have y1 : wr.cell? ⟨b, o + 1, none⟩ = some (.int .u8 73) := by rw [hwr]; exact x1
    have y2 : wr.cell? ⟨b, o + 2, none⟩ = some (.int .u8 77) := by rw [hwr]; exact x2
    have y3 : wr.cell? ⟨b, o + 3, none⟩ = some (.int .u8 69) := by rw [hwr]; exact x3
    have y4 : wr.cell? ⟨b, o + 4, none⟩ = some (.int .u8 1) := by rw [hwr]; exact x4
    have y5 : wr.cell? ⟨b, o + 5, none⟩ = some (.int .u8 (nb kd)) := by rw [hwr]; exact x5
    have hBr : Hid (Below w.heap.size w wr) := Lib.hid (by rw [hwr]; exact below_drewN (Below.refl _ _) m)
    replace hwr := Lib.hid hwr
    clear x0 x1 x2 x3 x4 x5
    by_cases hj0 : j = 0
    · subst hj0
      rw [show ((0 : Nat) : Int) = 0 from rfl]
      go_wp2_with fail
      refine (need_same _ _ _ _).mono ?_
      rintro e w' ⟨rfl, rfl⟩
      go_wp2_with fail
      go_quiet ((go_at_call 38; exact Calls.quiet_of_same (need_same _ _ _ _)))
      go_wp2_with fail
      exact ⟨⟨1, by omega, rfl, m + nq, by rw [hwr.out, World.drewN_drewN]⟩, by simp [intOf]⟩
    by_cases hj1 : j = 1
    · subst hj1
      rw [show ((1 : Nat) : Int) = 1 from rfl]
      go_wp2_with fail
      refine (need_same _ _ _ _).mono ?_
      rintro e w' ⟨rfl, rfl⟩
      go_wp2_with fail
      go_quiet ((go_at_call 38; exact Calls.quiet_of_same (need_same _ _ _ _)))
      go_wp2_with fail
      exact ⟨⟨2, by omega, rfl, m + nq, by rw [hwr.out, World.drewN_drewN]⟩, by simp [intOf]⟩
    by_cases hj2 : j = 2
    · subst hj2
      rw [show ((2 : Nat) : Int) = 2 from rfl]
      go_wp2_with fail
      refine (need_same _ _ _ _).mono ?_
      rintro e w' ⟨rfl, rfl⟩
      go_wp2_with fail
      go_quiet ((go_at_call 38; exact Calls.quiet_of_same (need_same _ _ _ _)))
      go_wp2_with fail
      exact ⟨⟨3, by omega, rfl, m + nq, by rw [hwr.out, World.drewN_drewN]⟩, by simp [intOf]⟩
    by_cases hj3 : j = 3
    · subst hj3
      rw [show ((3 : Nat) : Int) = 3 from rfl]
      go_wp2_with fail
      refine (need_same _ _ _ _).mono ?_
      rintro e w' ⟨rfl, rfl⟩
      go_wp2_with fail
      go_quiet ((go_at_call 38; exact Calls.quiet_of_same (need_same _ _ _ _)))
      go_wp2_with fail
      exact ⟨⟨4, by omega, rfl, m + nq, by rw [hwr.out, World.drewN_drewN]⟩, by simp [intOf]⟩
    obtain rfl : j = 4 := by omega
    rw [show ((4 : Nat) : Int) = 4 from rfl]
    go_wp2_with fail
    refine (need_same _ _ _ _).mono ?_
    rintro e w' ⟨rfl, rfl⟩
    go_wp2_with fail
    refine (need_same _ _ _ _).mono ?_
    rintro e w' ⟨rfl, rfl⟩
    go_wp2_with fail
    refine (need_same _ _ _ _).mono ?_
    rintro e w' ⟨rfl, rfl⟩
    go_wp2_with fail
    refine (need_same _ _ _ _).mono ?_
    rintro e w' ⟨rfl, rfl⟩
    go_wp2_with fail
    refine (need_false kFrame 9 3 _).mono ?_
    rintro e w2 ⟨q, rfl, hq, hF, hB2⟩
    have hB3 := Lib.hid (later' hBr.out hB2 hBr.out.size)
    have hq2 : w.heap.size ≤ q := Nat.le_trans hBr.out.size hq
    replace hF := Lib.hid hF
    clear hBr hB2
    go_wp2_with fail
    exact ⟨rfl, q, rfl, hq2, hF.out, hB3.out⟩

end Go.Proofs.YtmnmmabhmedioaaDoor
