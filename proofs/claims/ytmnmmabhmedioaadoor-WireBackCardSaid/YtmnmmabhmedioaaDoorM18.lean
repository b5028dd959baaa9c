/- Wire: a head that is refused. (Printed by gen_peek.py.) -/
import Derived.Test.YtmnmmabhmedioaaDoorM16
namespace Go.Proofs.YtmnmmabhmedioaaDoor
open Go.RowKit
set_option linter.unusedVariables false
set_option linter.unusedSimpArgs false
set_option maxRecDepth 100000

abbrev PeekBad (w : World) (f : FD) (e : Ending) (w' : World) : Prop := ∃ q, e = Threw q ∧ w.heap.size ≤ q ∧ FaultAt w' q f ∧ Below w.heap.size w w'

set_option maxHeartbeats 8000000 in
theorem peek_z0 (A : Option Addr) (c : Nat) (w : World) :
    Calls Tryd.prog 37 #[.slice A 0 c] w (PeekBad w ⟨kFrame, 0, 3⟩) := by
  go_enter Tryd.func37, Tryd.ntmps37
  go_wp2_with fail
  go_loopw [4, 6] (fun _ i wr => ∃ k : Nat, k ≤ 0 ∧ i = .int .i64 k ∧ ∃ m, wr = w.drewN m) (fun _ i _ => 4 - (intOf i).toNat)
  case atStart => exact ⟨0, by omega, rfl, 0, rfl⟩
  case round =>
    obtain ⟨j, hj, rfl, m, hwr⟩ := hrel
    have hBr : Hid (Below w.heap.size w wr) := Lib.hid (by rw [hwr]; exact below_drewN (Below.refl _ _) m)
    replace hwr := Lib.hid hwr
    obtain rfl : j = 0 := by omega
    rw [show ((0 : Nat) : Int) = 0 from rfl]
    go_wp2_with fail
    refine (need_no kFrame 0 3 _ _ (by first | rfl | (exact decide_eq_false (by omega)) | (exact hy) | (simp; omega))).mono ?_
    rintro e w2 ⟨q, rfl, hq, hF, hB2⟩
    have hB3 := Lib.hid (later' hBr.out hB2 hBr.out.size)
    have hq2 : w.heap.size ≤ q := Nat.le_trans hBr.out.size hq
    replace hF := Lib.hid hF
    clear hBr hB2
    go_wp2_with fail
    exact ⟨rfl, q, rfl, hq2, hF.out, hB3.out⟩

set_option maxHeartbeats 8000000 in
theorem peek_z1 (b o c : Nat) (w : World) (x0 : w.cell? ⟨b, o, none⟩ = some (.int .u8 82)) :
    Calls Tryd.prog 37 #[.slice (some ⟨b, o, none⟩) 1 c] w (PeekBad w ⟨kFrame, 1, 3⟩) := by
  go_enter Tryd.func37, Tryd.ntmps37
  go_wp2_with fail
  go_loopw [4, 6] (fun _ i wr => ∃ k : Nat, k ≤ 1 ∧ i = .int .i64 k ∧ ∃ m, wr = w.drewN m) (fun _ i _ => 4 - (intOf i).toNat)
  case atStart => exact ⟨0, by omega, rfl, 0, rfl⟩
  case round =>
    obtain ⟨j, hj, rfl, m, hwr⟩ := hrel
    have y0 : wr.cell? ⟨b, o, none⟩ = some (.int .u8 82) := by rw [hwr]; exact x0
    have hBr : Hid (Below w.heap.size w wr) := Lib.hid (by rw [hwr]; exact below_drewN (Below.refl _ _) m)
    replace hwr := Lib.hid hwr
    clear x0
    by_cases hj0 : j = 0
    · subst hj0
      rw [show ((0 : Nat) : Int) = 0 from rfl]
      go_wp2_with fail
      refine (need_same _ _ _ _).mono ?_
      rintro e w' ⟨rfl, rfl⟩
      go_wp2_with fail
      go_quiet ((go_at_call 38; exact Calls.quiet_of_same (need_same _ _ _ _)))
      go_wp2_with fail
      exact ⟨⟨1, by omega, rfl, m + nq, by rw [hwr.out, World.drewN_drewN]⟩, by simp [intOf]⟩
    obtain rfl : j = 1 := by omega
    rw [show ((1 : Nat) : Int) = 1 from rfl]
    go_wp2_with fail
    refine (need_no kFrame 1 3 _ _ (by first | rfl | (exact decide_eq_false (by omega)) | (exact hy) | (simp; omega))).mono ?_
    rintro e w2 ⟨q, rfl, hq, hF, hB2⟩
    have hB3 := Lib.hid (later' hBr.out hB2 hBr.out.size)
    have hq2 : w.heap.size ≤ q := Nat.le_trans hBr.out.size hq
    replace hF := Lib.hid hF
    clear hBr hB2
    go_wp2_with fail
    exact ⟨rfl, q, rfl, hq2, hF.out, hB3.out⟩

set_option maxHeartbeats 8000000 in
theorem peek_z2 (b o c : Nat) (w : World) (x0 : w.cell? ⟨b, o, none⟩ = some (.int .u8 82)) (x1 : w.cell? ⟨b, o + 1, none⟩ = some (.int .u8 73)) :
    Calls Tryd.prog 37 #[.slice (some ⟨b, o, none⟩) 2 c] w (PeekBad w ⟨kFrame, 2, 3⟩) := by
  go_enter Tryd.func37, Tryd.ntmps37
  go_wp2_with fail
  go_loopw [4, 6] (fun _ i wr => ∃ k : Nat, k ≤ 2 ∧ i = .int .i64 k ∧ ∃ m, wr = w.drewN m) (fun _ i _ => 4 - (intOf i).toNat)
  case atStart => exact ⟨0, by omega, rfl, 0, rfl⟩
  case round =>
    obtain ⟨j, hj, rfl, m, hwr⟩ := hrel
    have y0 : wr.cell? ⟨b, o, none⟩ = some (.int .u8 82) := by rw [hwr]; exact x0
    have y1 : wr.cell? ⟨b, o + 1, none⟩ = some (.int .u8 73) := by rw [hwr]; exact x1
    have hBr : Hid (Below w.heap.size w wr) := Lib.hid (by rw [hwr]; exact below_drewN (Below.refl _ _) m)
    replace hwr := Lib.hid hwr
    clear x0 x1
    by_cases hj0 : j = 0
    · subst hj0
      rw [show ((0 : Nat) : Int) = 0 from rfl]
      go_wp2_with fail
      refine (need_same _ _ _ _).mono ?_
      rintro e w' ⟨rfl, rfl⟩
      go_wp2_with fail
      go_quiet ((go_at_call 38; exact Calls.quiet_of_same (need_same _ _ _ _)))
      go_wp2_with fail
      exact ⟨⟨1, by omega, rfl, m + nq, by rw [hwr.out, World.drewN_drewN]⟩, by simp [intOf]⟩
    by_cases hj1 : j = 1
    · subst hj1
      rw [show ((1 : Nat) : Int) = 1 from rfl]
      go_wp2_with fail
      refine (need_same _ _ _ _).mono ?_
      rintro e w' ⟨rfl, rfl⟩
      go_wp2_with fail
      go_quiet ((go_at_call 38; exact Calls.quiet_of_same (need_same _ _ _ _)))
      go_wp2_with fail
      exact ⟨⟨2, by omega, rfl, m + nq, by rw [hwr.out, World.drewN_drewN]⟩, by simp [intOf]⟩
    obtain rfl : j = 2 := by omega
    rw [show ((2 : Nat) : Int) = 2 from rfl]
    go_wp2_with fail
    refine (need_no kFrame 2 3 _ _ (by first | rfl | (exact decide_eq_false (by omega)) | (exact hy) | (simp; omega))).mono ?_
    rintro e w2 ⟨q, rfl, hq, hF, hB2⟩
    have hB3 := Lib.hid (later' hBr.out hB2 hBr.out.size)
    have hq2 : w.heap.size ≤ q := Nat.le_trans hBr.out.size hq
    replace hF := Lib.hid hF
    clear hBr hB2
    go_wp2_with fail
    exact ⟨rfl, q, rfl, hq2, hF.out, hB3.out⟩

set_option maxHeartbeats 8000000 in
theorem peek_z3 (b o c : Nat) (w : World) (x0 : w.cell? ⟨b, o, none⟩ = some (.int .u8 82)) (x1 : w.cell? ⟨b, o + 1, none⟩ = some (.int .u8 73)) (x2 : w.cell? ⟨b, o + 2, none⟩ = some (.int .u8 77)) :
    Calls Tryd.prog 37 #[.slice (some ⟨b, o, none⟩) 3 c] w (PeekBad w ⟨kFrame, 3, 3⟩) := by
  go_enter Tryd.func37, Tryd.ntmps37
  go_wp2_with fail
  go_loopw [4, 6] (fun _ i wr => ∃ k : Nat, k ≤ 3 ∧ i = .int .i64 k ∧ ∃ m, wr = w.drewN m) (fun _ i _ => 4 - (intOf i).toNat)
  case atStart => exact ⟨0, by omega, rfl, 0, rfl⟩
  case round =>
    obtain ⟨j, hj, rfl, m, hwr⟩ := hrel
    have y0 : wr.cell? ⟨b, o, none⟩ = some (.int .u8 82) := by rw [hwr]; exact x0
    have y1 : wr.cell? ⟨b, o + 1, none⟩ = some (.int .u8 73) := by rw [hwr]; exact x1
    have y2 : wr.cell? ⟨b, o + 2, none⟩ = some (.int .u8 77) := by rw [hwr]; exact x2
    have hBr : Hid (Below w.heap.size w wr) := Lib.hid (by rw [hwr]; exact below_drewN (Below.refl _ _) m)
    replace hwr := Lib.hid hwr
    clear x0 x1 x2
    by_cases hj0 : j = 0
    · subst hj0
      rw [show ((0 : Nat) : Int) = 0 from rfl]
      go_wp2_with fail
      refine (need_same _ _ _ _).mono ?_
      rintro e w' ⟨rfl, rfl⟩
      go_wp2_with fail
      go_quiet ((go_at_call 38; exact Calls.quiet_of_same (need_same _ _ _ _)))
      go_wp2_with fail
      exact ⟨⟨1, by omega, rfl, m + nq, by rw [hwr.out, World.drewN_drewN]⟩, by simp [intOf]⟩
    by_cases hj1 : j = 1
    · subst hj1
      rw [show ((1 : Nat) : Int) = 1 from rfl]
      go_wp2_with fail
      refine (need_same _ _ _ _).mono ?_
      rintro e w' ⟨rfl, rfl⟩
      go_wp2_with fail
      go_quiet ((go_at_call 38; exact Calls.quiet_of_same (need_same _ _ _ _)))
      go_wp2_with fail
      exact ⟨⟨2, by omega, rfl, m + nq, by rw [hwr.out, World.drewN_drewN]⟩, by simp [intOf]⟩
    by_cases hj2 : j = 2
    · subst hj2
      rw [show ((2 : Nat) : Int) = 2 from rfl]
      go_wp2_with fail
      refine (need_same _ _ _ _).mono ?_
      rintro e w' ⟨rfl, rfl⟩
      go_wp2_with fail
      go_quiet ((go_at_call 38; exact Calls.quiet_of_same (need_same _ _ _ _)))
      go_wp2_with fail
      exact ⟨⟨3, by omega, rfl, m + nq, by rw [hwr.out, World.drewN_drewN]⟩, by simp [intOf]⟩
    obtain rfl : j = 3 := by omega
    rw [show ((3 : Nat) : Int) = 3 from rfl]
    go_wp2_with fail
    refine (need_no kFrame 3 3 _ _ (by first | rfl | (exact decide_eq_false (by omega)) | (exact hy) | (simp; omega))).mono ?_
    rintro e w2 ⟨q, rfl, hq, hF, hB2⟩
    have hB3 := Lib.hid (later' hBr.out hB2 hBr.out.size)
    have hq2 : w.heap.size ≤ q := Nat.le_trans hBr.out.size hq
    replace hF := Lib.hid hF
    clear hBr hB2
    go_wp2_with fail
    exact ⟨rfl, q, rfl, hq2, hF.out, hB3.out⟩

set_option maxHeartbeats 8000000 in
theorem peek_z4 (b o c : Nat) (w : World) (x0 : w.cell? ⟨b, o, none⟩ = some (.int .u8 82)) (x1 : w.cell? ⟨b, o + 1, none⟩ = some (.int .u8 73)) (x2 : w.cell? ⟨b, o + 2, none⟩ = some (.int .u8 77)) (x3 : w.cell? ⟨b, o + 3, none⟩ = some (.int .u8 69)) :
    Calls Tryd.prog 37 #[.slice (some ⟨b, o, none⟩) 4 c] w (PeekBad w ⟨kFrame, 4, 3⟩) := by
  go_enter Tryd.func37, Tryd.ntmps37
  go_wp2_with fail
  go_loopw [4, 6] (fun _ i wr => ∃ k : Nat, k ≤ 4 ∧ i = .int .i64 k ∧ ∃ m, wr = w.drewN m) (fun _ i _ => 4 - (intOf i).toNat)
  case atStart => exact ⟨0, by omega, rfl, 0, rfl⟩
  case round =>
    obtain ⟨j, hj, rfl, m, hwr⟩ := hrel
    have y0 : wr.cell? ⟨b, o, none⟩ = some (.int .u8 82) := by rw [hwr]; exact x0
    have y1 : wr.cell? ⟨b, o + 1, none⟩ = some (.int .u8 73) := by rw [hwr]; exact x1
    have y2 : wr.cell? ⟨b, o + 2, none⟩ = some (.int .u8 77) := by rw [hwr]; exact x2
    have y3 : wr.cell? ⟨b, o + 3, none⟩ = some (.int .u8 69) := by rw [hwr]; exact x3
    have hBr : Hid (Below w.heap.size w wr) := Lib.hid (by rw [hwr]; exact below_drewN (Below.refl _ _) m)
    replace hwr := Lib.hid hwr
    clear x0 x1 x2 x3
    by_cases hj0 : j = 0
    · subst hj0
      rw [show ((0 : Nat) : Int) = 0 from rfl]
      go_wp2_with fail
      refine (need_same _ _ _ _).mono ?_
      rintro e w' ⟨rfl, rfl⟩
      go_wp2_with fail
      go_quiet ((go_at_call 38; exact Calls.quiet_of_same (need_same _ _ _ _)))
      go_wp2_with fail
      exact ⟨⟨1, by omega, rfl, m + nq, by rw [hwr.out, World.drewN_drewN]⟩, by simp [intOf]⟩
    by_cases hj1 : j = 1
    · subst hj1
      rw [show ((1 : Nat) : Int) = 1 from rfl]
      go_wp2_with fail
      refine (need_same _ _ _ _).mono ?_
      rintro e w' ⟨rfl, rfl⟩
      go_wp2_with fail
      go_quiet ((go_at_call 38; exact Calls.quiet_of_same (need_same _ _ _ _)))
      go_wp2_with fail
      exact ⟨⟨2, by omega, rfl, m + nq, by rw [hwr.out, World.drewN_drewN]⟩, by simp [intOf]⟩
    by_cases hj2 : j = 2
    · subst hj2
      rw [show ((2 : Nat) : Int) = 2 from rfl]
      go_wp2_with fail
      refine (need_same _ _ _ _).mono ?_
      rintro e w' ⟨rfl, rfl⟩
      go_wp2_with fail
      go_quiet ((go_at_call 38; exact Calls.quiet_of_same (need_same _ _ _ _)))
      go_wp2_with fail
      exact ⟨⟨3, by omega, rfl, m + nq, by rw [hwr.out, World.drewN_drewN]⟩, by simp [intOf]⟩
    by_cases hj3 : j = 3
    · subst hj3
      rw [show ((3 : Nat) : Int) = 3 from rfl]
      go_wp2_with fail
      refine (need_same _ _ _ _).mono ?_
      rintro e w' ⟨rfl, rfl⟩
      go_wp2_with fail
      go_quiet ((go_at_call 38; exact Calls.quiet_of_same (need_same _ _ _ _)))
      go_wp2_with fail
      exact ⟨⟨4, by omega, rfl, m + nq, by rw [hwr.out, World.drewN_drewN]⟩, by simp [intOf]⟩
    obtain rfl : j = 4 := by omega
    rw [show ((4 : Nat) : Int) = 4 from rfl]
    go_wp2_with fail
    refine (need_no kFrame 4 3 _ _ (by first | rfl | (exact decide_eq_false (by omega)) | (exact hy) | (simp; omega))).mono ?_
    rintro e w2 ⟨q, rfl, hq, hF, hB2⟩
    have hB3 := Lib.hid (later' hBr.out hB2 hBr.out.size)
    have hq2 : w.heap.size ≤ q := Nat.le_trans hBr.out.size hq
    replace hF := Lib.hid hF
    clear hBr hB2
    go_wp2_with fail
    exact ⟨rfl, q, rfl, hq2, hF.out, hB3.out⟩

set_option maxHeartbeats 8000000 in
theorem peek_z5 (b o c : Nat) (w : World) (x0 : w.cell? ⟨b, o, none⟩ = some (.int .u8 82)) (x1 : w.cell? ⟨b, o + 1, none⟩ = some (.int .u8 73)) (x2 : w.cell? ⟨b, o + 2, none⟩ = some (.int .u8 77)) (x3 : w.cell? ⟨b, o + 3, none⟩ = some (.int .u8 69)) (x4 : w.cell? ⟨b, o + 4, none⟩ = some (.int .u8 1)) :
    Calls Tryd.prog 37 #[.slice (some ⟨b, o, none⟩) 5 c] w (PeekBad w ⟨kFrame, 5, 3⟩) := by
  go_enter Tryd.func37, Tryd.ntmps37
  go_wp2_with fail
  go_loopw [4, 6] (fun _ i wr => ∃ k : Nat, k ≤ 4 ∧ i = .int .i64 k ∧ ∃ m, wr = w.drewN m) (fun _ i _ => 4 - (intOf i).toNat)
  case atStart => exact ⟨0, by omega, rfl, 0, rfl⟩
  case round =>
    obtain ⟨j, hj, rfl, m, hwr⟩ := hrel
    have y0 : wr.cell? ⟨b, o, none⟩ = some (.int .u8 82) := by rw [hwr]; exact x0
    have y1 : wr.cell? ⟨b, o + 1, none⟩ = some (.int .u8 73) := by rw [hwr]; exact x1
    have y2 : wr.cell? ⟨b, o + 2, none⟩ = some (.int .u8 77) := by rw [hwr]; exact x2
    have y3 : wr.cell? ⟨b, o + 3, none⟩ = some (.int .u8 69) := by rw [hwr]; exact x3
    have y4 : wr.cell? ⟨b, o + 4, none⟩ = some (.int .u8 1) := by rw [hwr]; exact x4
    have hBr : Hid (Below w.heap.size w wr) := Lib.hid (by rw [hwr]; exact below_drewN (Below.refl _ _) m)
    replace hwr := Lib.hid hwr
    clear x0 x1 x2 x3 x4
    by_cases hj0 : j = 0
    · subst hj0
      rw [show ((0 : Nat) : Int) = 0 from rfl]
      go_wp2_with fail
      refine (need_same _ _ _ _).mono ?_
      rintro e w' ⟨rfl, rfl⟩
      go_wp2_with fail
      go_quiet ((go_at_call 38; exact Calls.quiet_of_same (need_same _ _ _ _)))
      go_wp2_with fail
      exact ⟨⟨1, by omega, rfl, m + nq, by rw [hwr.out, World.drewN_drewN]⟩, by simp [intOf]⟩
    by_cases hj1 : j = 1
    · subst hj1
      rw [show ((1 : Nat) : Int) = 1 from rfl]
      go_wp2_with fail
      refine (need_same _ _ _ _).mono ?_
      rintro e w' ⟨rfl, rfl⟩
      go_wp2_with fail
      go_quiet ((go_at_call 38; exact Calls.quiet_of_same (need_same _ _ _ _)))
      go_wp2_with fail
      exact ⟨⟨2, by omega, rfl, m + nq, by rw [hwr.out, World.drewN_drewN]⟩, by simp [intOf]⟩
    by_cases hj2 : j = 2
    · subst hj2
      rw [show ((2 : Nat) : Int) = 2 from rfl]
      go_wp2_with fail
      refine (need_same _ _ _ _).mono ?_
      rintro e w' ⟨rfl, rfl⟩
      go_wp2_with fail
      go_quiet ((go_at_call 38; exact Calls.quiet_of_same (need_same _ _ _ _)))
      go_wp2_with fail
      exact ⟨⟨3, by omega, rfl, m + nq, by rw [hwr.out, World.drewN_drewN]⟩, by simp [intOf]⟩
    by_cases hj3 : j = 3
    · subst hj3
      rw [show ((3 : Nat) : Int) = 3 from rfl]
      go_wp2_with fail
      refine (need_same _ _ _ _).mono ?_
      rintro e w' ⟨rfl, rfl⟩
      go_wp2_with fail
      go_quiet ((go_at_call 38; exact Calls.quiet_of_same (need_same _ _ _ _)))
      go_wp2_with fail
      exact ⟨⟨4, by omega, rfl, m + nq, by rw [hwr.out, World.drewN_drewN]⟩, by simp [intOf]⟩
    obtain rfl : j = 4 := by omega
    rw [show ((4 : Nat) : Int) = 4 from rfl]
    go_wp2_with fail
    refine (need_same _ _ _ _).mono ?_
    rintro e w' ⟨rfl, rfl⟩
    go_wp2_with fail
    refine (need_same _ _ _ _).mono ?_
    rintro e w' ⟨rfl, rfl⟩
    go_wp2_with fail
    refine (need_no kFrame 5 3 _ _ (by first | rfl | (exact decide_eq_false (by omega)) | (exact hy) | (simp; omega))).mono ?_
    rintro e w2 ⟨q, rfl, hq, hF, hB2⟩
    have hB3 := Lib.hid (later' hBr.out hB2 hBr.out.size)
    have hq2 : w.heap.size ≤ q := Nat.le_trans hBr.out.size hq
    replace hF := Lib.hid hF
    clear hBr hB2
    go_wp2_with fail
    exact ⟨rfl, q, rfl, hq2, hF.out, hB3.out⟩

set_option maxHeartbeats 8000000 in
theorem peek_z6 (b o c : Nat) (kd : UInt8) (hk1 : 1 ≤ nb kd) (hk6 : nb kd ≤ 6) (w : World) (x0 : w.cell? ⟨b, o, none⟩ = some (.int .u8 82)) (x1 : w.cell? ⟨b, o + 1, none⟩ = some (.int .u8 73)) (x2 : w.cell? ⟨b, o + 2, none⟩ = some (.int .u8 77)) (x3 : w.cell? ⟨b, o + 3, none⟩ = some (.int .u8 69)) (x4 : w.cell? ⟨b, o + 4, none⟩ = some (.int .u8 1)) (x5 : w.cell? ⟨b, o + 5, none⟩ = some (.int .u8 (nb kd))) :
    Calls Tryd.prog 37 #[.slice (some ⟨b, o, none⟩) 6 c] w (PeekBad w ⟨kFrame, 6, 3⟩) := by
  go_enter Tryd.func37, Tryd.ntmps37
  go_wp2_with fail
  go_loopw [4, 6] (fun _ i wr => ∃ k : Nat, k ≤ 4 ∧ i = .int .i64 k ∧ ∃ m, wr = w.drewN m) (fun _ i _ => 4 - (intOf i).toNat)
  case atStart => exact ⟨0, by omega, rfl, 0, rfl⟩
  case round =>
    obtain ⟨j, hj, rfl, m, hwr⟩ := hrel
    have y0 : wr.cell? ⟨b, o, none⟩ = some (.int .u8 82) := by rw [hwr]; exact x0
    have y1 : wr.cell? ⟨b, o + 1, none⟩ = some (.int .u8 73) := by rw [hwr]; exact x1
    have y2 : wr.cell? ⟨b, o + 2, none⟩ = some (.int .u8 77) := by rw [hwr]; exact x2
    have y3 : wr.cell? ⟨b, o + 3, none⟩ = some (.int .u8 69) := by rw [hwr]; exact x3
    have y4 : wr.cell? ⟨b, o + 4, none⟩ = some (.int .u8 1) := by rw [hwr]; exact x4
    have y5 : wr.cell? ⟨b, o + 5, none⟩ = some (.int .u8 (nb kd)) := by rw [hwr]; exact x5
    have hBr : Hid (Below w.heap.size w wr) := Lib.hid (by rw [hwr]; exact below_drewN (Below.refl _ _) m)
    replace hwr := Lib.hid hwr
    clear x0 x1 x2 x3 x4 x5
    by_cases hj0 : j = 0
    · subst hj0
      rw [show ((0 : Nat) : Int) = 0 from rfl]
      go_wp2_with fail
      refine (need_same _ _ _ _).mono ?_
      rintro e w' ⟨rfl, rfl⟩
      go_wp2_with fail
      go_quiet ((go_at_call 38; exact Calls.quiet_of_same (need_same _ _ _ _)))
      go_wp2_with fail
      exact ⟨⟨1, by omega, rfl, m + nq, by rw [hwr.out, World.drewN_drewN]⟩, by simp [intOf]⟩
    by_cases hj1 : j = 1
    · subst hj1
      rw [show ((1 : Nat) : Int) = 1 from rfl]
      go_wp2_with fail
      refine (need_same _ _ _ _).mono ?_
      rintro e w' ⟨rfl, rfl⟩
      go_wp2_with fail
      go_quiet ((go_at_call 38; exact Calls.quiet_of_same (need_same _ _ _ _)))
      go_wp2_with fail
      exact ⟨⟨2, by omega, rfl, m + nq, by rw [hwr.out, World.drewN_drewN]⟩, by simp [intOf]⟩
    by_cases hj2 : j = 2
    · subst hj2
      rw [show ((2 : Nat) : Int) = 2 from rfl]
      go_wp2_with fail
      refine (need_same _ _ _ _).mono ?_
      rintro e w' ⟨rfl, rfl⟩
      go_wp2_with fail
      go_quiet ((go_at_call 38; exact Calls.quiet_of_same (need_same _ _ _ _)))
      go_wp2_with fail
      exact ⟨⟨3, by omega, rfl, m + nq, by rw [hwr.out, World.drewN_drewN]⟩, by simp [intOf]⟩
    by_cases hj3 : j = 3
    · subst hj3
      rw [show ((3 : Nat) : Int) = 3 from rfl]
      go_wp2_with fail
      refine (need_same _ _ _ _).mono ?_
      rintro e w' ⟨rfl, rfl⟩
      go_wp2_with fail
      go_quiet ((go_at_call 38; exact Calls.quiet_of_same (need_same _ _ _ _)))
      go_wp2_with fail
      exact ⟨⟨4, by omega, rfl, m + nq, by rw [hwr.out, World.drewN_drewN]⟩, by simp [intOf]⟩
    obtain rfl : j = 4 := by omega
    rw [show ((4 : Nat) : Int) = 4 from rfl]
    go_wp2_with fail
    refine (need_same _ _ _ _).mono ?_
    rintro e w' ⟨rfl, rfl⟩
    go_wp2_with fail
    refine (need_same _ _ _ _).mono ?_
    rintro e w' ⟨rfl, rfl⟩
    go_wp2_with fail
    refine (need_same _ _ _ _).mono ?_
    rintro e w' ⟨rfl, rfl⟩
    go_wp2_with fail
    refine (need_same _ _ _ _).mono ?_
    rintro e w' ⟨rfl, rfl⟩
    go_wp2_with fail
    refine (need_no kFrame 6 3 _ _ (by first | rfl | (exact decide_eq_false (by omega)) | (exact hy) | (simp; omega))).mono ?_
    rintro e w2 ⟨q, rfl, hq, hF, hB2⟩
    have hB3 := Lib.hid (later' hBr.out hB2 hBr.out.size)
    have hq2 : w.heap.size ≤ q := Nat.le_trans hBr.out.size hq
    replace hF := Lib.hid hF
    clear hBr hB2
    go_wp2_with fail
    exact ⟨rfl, q, rfl, hq2, hF.out, hB3.out⟩

set_option maxHeartbeats 8000000 in
theorem peek_z7 (b o c : Nat) (kd : UInt8) (hk1 : 1 ≤ nb kd) (hk6 : nb kd ≤ 6) (w : World) (x0 : w.cell? ⟨b, o, none⟩ = some (.int .u8 82)) (x1 : w.cell? ⟨b, o + 1, none⟩ = some (.int .u8 73)) (x2 : w.cell? ⟨b, o + 2, none⟩ = some (.int .u8 77)) (x3 : w.cell? ⟨b, o + 3, none⟩ = some (.int .u8 69)) (x4 : w.cell? ⟨b, o + 4, none⟩ = some (.int .u8 1)) (x5 : w.cell? ⟨b, o + 5, none⟩ = some (.int .u8 (nb kd))) :
    Calls Tryd.prog 37 #[.slice (some ⟨b, o, none⟩) 7 c] w (PeekBad w ⟨kFrame, 7, 3⟩) := by
  go_enter Tryd.func37, Tryd.ntmps37
  go_wp2_with fail
  go_loopw [4, 6] (fun _ i wr => ∃ k : Nat, k ≤ 4 ∧ i = .int .i64 k ∧ ∃ m, wr = w.drewN m) (fun _ i _ => 4 - (intOf i).toNat)
  case atStart => exact ⟨0, by omega, rfl, 0, rfl⟩
  case round =>
    obtain ⟨j, hj, rfl, m, hwr⟩ := hrel
    have y0 : wr.cell? ⟨b, o, none⟩ = some (.int .u8 82) := by rw [hwr]; exact x0
    have y1 : wr.cell? ⟨b, o + 1, none⟩ = some (.int .u8 73) := by rw [hwr]; exact x1
    have y2 : wr.cell? ⟨b, o + 2, none⟩ = some (.int .u8 77) := by rw [hwr]; exact x2
    have y3 : wr.cell? ⟨b, o + 3, none⟩ = some (.int .u8 69) := by rw [hwr]; exact x3
    have y4 : wr.cell? ⟨b, o + 4, none⟩ = some (.int .u8 1) := by rw [hwr]; exact x4
    have y5 : wr.cell? ⟨b, o + 5, none⟩ = some (.int .u8 (nb kd)) := by rw [hwr]; exact x5
    have hBr : Hid (Below w.heap.size w wr) := Lib.hid (by rw [hwr]; exact below_drewN (Below.refl _ _) m)
    replace hwr := Lib.hid hwr
    clear x0 x1 x2 x3 x4 x5
    by_cases hj0 : j = 0
    · subst hj0
      rw [show ((0 : Nat) : Int) = 0 from rfl]
      go_wp2_with fail
      refine (need_same _ _ _ _).mono ?_
      rintro e w' ⟨rfl, rfl⟩
      go_wp2_with fail
      go_quiet ((go_at_call 38; exact Calls.quiet_of_same (need_same _ _ _ _)))
      go_wp2_with fail
      exact ⟨⟨1, by omega, rfl, m + nq, by rw [hwr.out, World.drewN_drewN]⟩, by simp [intOf]⟩
    by_cases hj1 : j = 1
    · subst hj1
      rw [show ((1 : Nat) : Int) = 1 from rfl]
      go_wp2_with fail
      refine (need_same _ _ _ _).mono ?_
      rintro e w' ⟨rfl, rfl⟩
      go_wp2_with fail
      go_quiet ((go_at_call 38; exact Calls.quiet_of_same (need_same _ _ _ _)))
      go_wp2_with fail
      exact ⟨⟨2, by omega, rfl, m + nq, by rw [hwr.out, World.drewN_drewN]⟩, by simp [intOf]⟩
    by_cases hj2 : j = 2
    · subst hj2
      rw [show ((2 : Nat) : Int) = 2 from rfl]
      go_wp2_with fail
      refine (need_same _ _ _ _).mono ?_
      rintro e w' ⟨rfl, rfl⟩
      go_wp2_with fail
      go_quiet ((go_at_call 38; exact Calls.quiet_of_same (need_same _ _ _ _)))
      go_wp2_with fail
      exact ⟨⟨3, by omega, rfl, m + nq, by rw [hwr.out, World.drewN_drewN]⟩, by simp [intOf]⟩
    by_cases hj3 : j = 3
    · subst hj3
      rw [show ((3 : Nat) : Int) = 3 from rfl]
      go_wp2_with fail
      refine (need_same _ _ _ _).mono ?_
      rintro e w' ⟨rfl, rfl⟩
      go_wp2_with fail
      go_quiet ((go_at_call 38; exact Calls.quiet_of_same (need_same _ _ _ _)))
      go_wp2_with fail
      exact ⟨⟨4, by omega, rfl, m + nq, by rw [hwr.out, World.drewN_drewN]⟩, by simp [intOf]⟩
    obtain rfl : j = 4 := by omega
    rw [show ((4 : Nat) : Int) = 4 from rfl]
    go_wp2_with fail
    refine (need_same _ _ _ _).mono ?_
    rintro e w' ⟨rfl, rfl⟩
    go_wp2_with fail
    refine (need_same _ _ _ _).mono ?_
    rintro e w' ⟨rfl, rfl⟩
    go_wp2_with fail
    refine (need_same _ _ _ _).mono ?_
    rintro e w' ⟨rfl, rfl⟩
    go_wp2_with fail
    refine (need_same _ _ _ _).mono ?_
    rintro e w' ⟨rfl, rfl⟩
    go_wp2_with fail
    refine (need_no kFrame 7 3 _ _ (by first | rfl | (exact decide_eq_false (by omega)) | (exact hy) | (simp; omega))).mono ?_
    rintro e w2 ⟨q, rfl, hq, hF, hB2⟩
    have hB3 := Lib.hid (later' hBr.out hB2 hBr.out.size)
    have hq2 : w.heap.size ≤ q := Nat.le_trans hBr.out.size hq
    replace hF := Lib.hid hF
    clear hBr hB2
    go_wp2_with fail
    exact ⟨rfl, q, rfl, hq2, hF.out, hB3.out⟩

set_option maxHeartbeats 8000000 in
theorem peek_z8 (b o c : Nat) (kd : UInt8) (hk1 : 1 ≤ nb kd) (hk6 : nb kd ≤ 6) (w : World) (x0 : w.cell? ⟨b, o, none⟩ = some (.int .u8 82)) (x1 : w.cell? ⟨b, o + 1, none⟩ = some (.int .u8 73)) (x2 : w.cell? ⟨b, o + 2, none⟩ = some (.int .u8 77)) (x3 : w.cell? ⟨b, o + 3, none⟩ = some (.int .u8 69)) (x4 : w.cell? ⟨b, o + 4, none⟩ = some (.int .u8 1)) (x5 : w.cell? ⟨b, o + 5, none⟩ = some (.int .u8 (nb kd))) :
    Calls Tryd.prog 37 #[.slice (some ⟨b, o, none⟩) 8 c] w (PeekBad w ⟨kFrame, 8, 3⟩) := by
  go_enter Tryd.func37, Tryd.ntmps37
  go_wp2_with fail
  go_loopw [4, 6] (fun _ i wr => ∃ k : Nat, k ≤ 4 ∧ i = .int .i64 k ∧ ∃ m, wr = w.drewN m) (fun _ i _ => 4 - (intOf i).toNat)
  case atStart => exact ⟨0, by omega, rfl, 0, rfl⟩
  case round =>
    obtain ⟨j, hj, rfl, m, hwr⟩ := hrel
    have y0 : wr.cell? ⟨b, o, none⟩ = some (.int .u8 82) := by rw [hwr]; exact x0
    have y1 : wr.cell? ⟨b, o + 1, none⟩ = some (.int .u8 73) := by rw [hwr]; exact x1
    have y2 : wr.cell? ⟨b, o + 2, none⟩ = some (.int .u8 77) := by rw [hwr]; exact x2
    have y3 : wr.cell? ⟨b, o + 3, none⟩ = some (.int .u8 69) := by rw [hwr]; exact x3
    have y4 : wr.cell? ⟨b, o + 4, none⟩ = some (.int .u8 1) := by rw [hwr]; exact x4
    have y5 : wr.cell? ⟨b, o + 5, none⟩ = some (.int .u8 (nb kd)) := by rw [hwr]; exact x5
    have hBr : Hid (Below w.heap.size w wr) := Lib.hid (by rw [hwr]; exact below_drewN (Below.refl _ _) m)
    replace hwr := Lib.hid hwr
    clear x0 x1 x2 x3 x4 x5
    by_cases hj0 : j = 0
    · subst hj0
      rw [show ((0 : Nat) : Int) = 0 from rfl]
      go_wp2_with fail
      refine (need_same _ _ _ _).mono ?_
      rintro e w' ⟨rfl, rfl⟩
      go_wp2_with fail
      go_quiet ((go_at_call 38; exact Calls.quiet_of_same (need_same _ _ _ _)))
      go_wp2_with fail
      exact ⟨⟨1, by omega, rfl, m + nq, by rw [hwr.out, World.drewN_drewN]⟩, by simp [intOf]⟩
    by_cases hj1 : j = 1
    · subst hj1
      rw [show ((1 : Nat) : Int) = 1 from rfl]
      go_wp2_with fail
      refine (need_same _ _ _ _).mono ?_
      rintro e w' ⟨rfl, rfl⟩
      go_wp2_with fail
      go_quiet ((go_at_call 38; exact Calls.quiet_of_same (need_same _ _ _ _)))
      go_wp2_with fail
      exact ⟨⟨2, by omega, rfl, m + nq, by rw [hwr.out, World.drewN_drewN]⟩, by simp [intOf]⟩
    by_cases hj2 : j = 2
    · subst hj2
      rw [show ((2 : Nat) : Int) = 2 from rfl]
      go_wp2_with fail
      refine (need_same _ _ _ _).mono ?_
      rintro e w' ⟨rfl, rfl⟩
      go_wp2_with fail
      go_quiet ((go_at_call 38; exact Calls.quiet_of_same (need_same _ _ _ _)))
      go_wp2_with fail
      exact ⟨⟨3, by omega, rfl, m + nq, by rw [hwr.out, World.drewN_drewN]⟩, by simp [intOf]⟩
    by_cases hj3 : j = 3
    · subst hj3
      rw [show ((3 : Nat) : Int) = 3 from rfl]
      go_wp2_with fail
      refine (need_same _ _ _ _).mono ?_
      rintro e w' ⟨rfl, rfl⟩
      go_wp2_with fail
      go_quiet ((go_at_call 38; exact Calls.quiet_of_same (need_same _ _ _ _)))
      go_wp2_with fail
      exact ⟨⟨4, by omega, rfl, m + nq, by rw [hwr.out, World.drewN_drewN]⟩, by simp [intOf]⟩
    obtain rfl : j = 4 := by omega
    rw [show ((4 : Nat) : Int) = 4 from rfl]
    go_wp2_with fail
    refine (need_same _ _ _ _).mono ?_
    rintro e w' ⟨rfl, rfl⟩
    go_wp2_with fail
    refine (need_same _ _ _ _).mono ?_
    rintro e w' ⟨rfl, rfl⟩
    go_wp2_with fail
    refine (need_same _ _ _ _).mono ?_
    rintro e w' ⟨rfl, rfl⟩
    go_wp2_with fail
    refine (need_same _ _ _ _).mono ?_
    rintro e w' ⟨rfl, rfl⟩
    go_wp2_with fail
    refine (need_no kFrame 8 3 _ _ (by first | rfl | (exact decide_eq_false (by omega)) | (exact hy) | (simp; omega))).mono ?_
    rintro e w2 ⟨q, rfl, hq, hF, hB2⟩
    have hB3 := Lib.hid (later' hBr.out hB2 hBr.out.size)
    have hq2 : w.heap.size ≤ q := Nat.le_trans hBr.out.size hq
    replace hF := Lib.hid hF
    clear hBr hB2
    go_wp2_with fail
    exact ⟨rfl, q, rfl, hq2, hF.out, hB3.out⟩

set_option maxHeartbeats 8000000 in
theorem peek_z9 (b o c : Nat) (kd : UInt8) (hk1 : 1 ≤ nb kd) (hk6 : nb kd ≤ 6) (w : World) (x0 : w.cell? ⟨b, o, none⟩ = some (.int .u8 82)) (x1 : w.cell? ⟨b, o + 1, none⟩ = some (.int .u8 73)) (x2 : w.cell? ⟨b, o + 2, none⟩ = some (.int .u8 77)) (x3 : w.cell? ⟨b, o + 3, none⟩ = some (.int .u8 69)) (x4 : w.cell? ⟨b, o + 4, none⟩ = some (.int .u8 1)) (x5 : w.cell? ⟨b, o + 5, none⟩ = some (.int .u8 (nb kd))) :
    Calls Tryd.prog 37 #[.slice (some ⟨b, o, none⟩) 9 c] w (PeekBad w ⟨kFrame, 9, 3⟩) := by
  go_enter Tryd.func37, Tryd.ntmps37
  go_wp2_with fail
  go_loopw [4, 6] (fun _ i wr => ∃ k : Nat, k ≤ 4 ∧ i = .int .i64 k ∧ ∃ m, wr = w.drewN m) (fun _ i _ => 4 - (intOf i).toNat)
  case atStart => exact ⟨0, by omega, rfl, 0, rfl⟩
  case round =>
    obtain ⟨j, hj, rfl, m, hwr⟩ := hrel
    have y0 : wr.cell? ⟨b, o, none⟩ = some (.int .u8 82) := by rw [hwr]; exact x0
    have y1 : wr.cell? ⟨b, o + 1, none⟩ = some (.int .u8 73) := by rw [hwr]; exact x1
    have y2 : wr.cell? ⟨b, o + 2, none⟩ = some (.int .u8 77) := by rw [hwr]; exact x2
    have y3 : wr.cell? ⟨b, o + 3, none⟩ = some (.int .u8 69) := by rw [hwr]; exact x3
    have y4 : wr.cell? ⟨b, o + 4, none⟩ = some (.int .u8 1) := by rw [hwr]; exact x4
    have y5 : wr.cell? ⟨b, o + 5, none⟩ = some (.int .u8 (nb kd)) := by rw [hwr]; exact x5
    have hBr : Hid (Below w.heap.size w wr) := Lib.hid (by rw [hwr]; exact below_drewN (Below.refl _ _) m)
    replace hwr := Lib.hid hwr
    clear x0 x1 x2 x3 x4 x5
    by_cases hj0 : j = 0
    · subst hj0
      rw [show ((0 : Nat) : Int) = 0 from rfl]
      go_wp2_with fail
      refine (need_same _ _ _ _).mono ?_
      rintro e w' ⟨rfl, rfl⟩
      go_wp2_with fail
      go_quiet ((go_at_call 38; exact Calls.quiet_of_same (need_same _ _ _ _)))
      go_wp2_with fail
      exact ⟨⟨1, by omega, rfl, m + nq, by rw [hwr.out, World.drewN_drewN]⟩, by simp [intOf]⟩
    by_cases hj1 : j = 1
    · subst hj1
      rw [show ((1 : Nat) : Int) = 1 from rfl]
      go_wp2_with fail
      refine (need_same _ _ _ _).mono ?_
      rintro e w' ⟨rfl, rfl⟩
      go_wp2_with fail
      go_quiet ((go_at_call 38; exact Calls.quiet_of_same (need_same _ _ _ _)))
      go_wp2_with fail
      exact ⟨⟨2, by omega, rfl, m + nq, by rw [hwr.out, World.drewN_drewN]⟩, by simp [intOf]⟩
    by_cases hj2 : j = 2
    · subst hj2
      rw [show ((2 : Nat) : Int) = 2 from rfl]
      go_wp2_with fail
      refine (need_same _ _ _ _).mono ?_
      rintro e w' ⟨rfl, rfl⟩
      go_wp2_with fail
      go_quiet ((go_at_call 38; exact Calls.quiet_of_same (need_same _ _ _ _)))
      go_wp2_with fail
      exact ⟨⟨3, by omega, rfl, m + nq, by rw [hwr.out, World.drewN_drewN]⟩, by simp [intOf]⟩
    by_cases hj3 : j = 3
    · subst hj3
      rw [show ((3 : Nat) : Int) = 3 from rfl]
      go_wp2_with fail
      refine (need_same _ _ _ _).mono ?_
      rintro e w' ⟨rfl, rfl⟩
      go_wp2_with fail
      go_quiet ((go_at_call 38; exact Calls.quiet_of_same (need_same _ _ _ _)))
      go_wp2_with fail
      exact ⟨⟨4, by omega, rfl, m + nq, by rw [hwr.out, World.drewN_drewN]⟩, by simp [intOf]⟩
    obtain rfl : j = 4 := by omega
    rw [show ((4 : Nat) : Int) = 4 from rfl]
    go_wp2_with fail
    refine (need_same _ _ _ _).mono ?_
    rintro e w' ⟨rfl, rfl⟩
    go_wp2_with fail
    refine (need_same _ _ _ _).mono ?_
    rintro e w' ⟨rfl, rfl⟩
    go_wp2_with fail
    refine (need_same _ _ _ _).mono ?_
    rintro e w' ⟨rfl, rfl⟩
    go_wp2_with fail
    refine (need_same _ _ _ _).mono ?_
    rintro e w' ⟨rfl, rfl⟩
    go_wp2_with fail
    refine (need_no kFrame 9 3 _ _ (by first | rfl | (exact decide_eq_false (by omega)) | (exact hy) | (simp; omega))).mono ?_
    rintro e w2 ⟨q, rfl, hq, hF, hB2⟩
    have hB3 := Lib.hid (later' hBr.out hB2 hBr.out.size)
    have hq2 : w.heap.size ≤ q := Nat.le_trans hBr.out.size hq
    replace hF := Lib.hid hF
    clear hBr hB2
    go_wp2_with fail
    exact ⟨rfl, q, rfl, hq2, hF.out, hB3.out⟩

set_option maxHeartbeats 8000000 in
theorem peek_m0 (b o c n : Nat) (hn : 0 < n) (hn2 : n ≤ 140737488355328) (y : UInt8) (hyn : nb y ≠ 82) (w : World) (x0 : w.cell? ⟨b, o, none⟩ = some (.int .u8 (nb y))) :
    Calls Tryd.prog 37 #[.slice (some ⟨b, o, none⟩) n c] w (PeekBad w ⟨kMagic, 0, 101⟩) := by
  have hni : (0 : Int) < (n : Int) := by omega
  go_enter Tryd.func37, Tryd.ntmps37
  go_wp2_with fail
  go_loopw [4, 6] (fun _ i wr => ∃ k : Nat, k ≤ 0 ∧ i = .int .i64 k ∧ ∃ m, wr = w.drewN m) (fun _ i _ => 4 - (intOf i).toNat)
  case atStart => exact ⟨0, by omega, rfl, 0, rfl⟩
  case round =>
    obtain ⟨j, hj, rfl, m, hwr⟩ := hrel
    have y0 : wr.cell? ⟨b, o, none⟩ = some (.int .u8 (nb y)) := by rw [hwr]; exact x0
    have hBr : Hid (Below w.heap.size w wr) := Lib.hid (by rw [hwr]; exact below_drewN (Below.refl _ _) m)
    replace hwr := Lib.hid hwr
    clear x0
    obtain rfl : j = 0 := by omega
    rw [show ((0 : Nat) : Int) = 0 from rfl]
    have hy : decide (nb y = 82) = false := decide_eq_false hyn
    go_wp2_with fail
    refine (need_same _ _ _ _).mono ?_
    rintro e w' ⟨rfl, rfl⟩
    go_wp2_with fail
    go_still_tail 8, (by kernel_rfl)
    change wpList _ _ _ _ _ w'.drew
    replace hBr : Hid (Below w.heap.size w w'.drew) := Lib.hid hBr.out.drew
    clear hwr y0
    generalize w'.drew = wd at hBr ⊢
    go_wp2_with fail
    refine (need_no kMagic 0 101 _ _ (by first | rfl | (exact decide_eq_false (by omega)) | (exact hy) | (simp; omega))).mono ?_
    rintro e w2 ⟨q, rfl, hq, hF, hB2⟩
    have hB3 := Lib.hid (later' hBr.out hB2 hBr.out.size)
    have hq2 : w.heap.size ≤ q := Nat.le_trans hBr.out.size hq
    replace hF := Lib.hid hF
    clear hBr hB2
    go_wp2_with fail
    exact ⟨rfl, q, rfl, hq2, hF.out, hB3.out⟩

set_option maxHeartbeats 8000000 in
theorem peek_m1 (b o c n : Nat) (hn : 1 < n) (hn2 : n ≤ 140737488355328) (y : UInt8) (hyn : nb y ≠ 73) (w : World) (x0 : w.cell? ⟨b, o, none⟩ = some (.int .u8 82)) (x1 : w.cell? ⟨b, o + 1, none⟩ = some (.int .u8 (nb y))) :
    Calls Tryd.prog 37 #[.slice (some ⟨b, o, none⟩) n c] w (PeekBad w ⟨kMagic, 1, 101⟩) := by
  have hni : (1 : Int) < (n : Int) := by omega
  go_enter Tryd.func37, Tryd.ntmps37
  go_wp2_with fail
  go_loopw [4, 6] (fun _ i wr => ∃ k : Nat, k ≤ 1 ∧ i = .int .i64 k ∧ ∃ m, wr = w.drewN m) (fun _ i _ => 4 - (intOf i).toNat)
  case atStart => exact ⟨0, by omega, rfl, 0, rfl⟩
  case round =>
    obtain ⟨j, hj, rfl, m, hwr⟩ := hrel
    have y0 : wr.cell? ⟨b, o, none⟩ = some (.int .u8 82) := by rw [hwr]; exact x0
    have y1 : wr.cell? ⟨b, o + 1, none⟩ = some (.int .u8 (nb y)) := by rw [hwr]; exact x1
    have hBr : Hid (Below w.heap.size w wr) := Lib.hid (by rw [hwr]; exact below_drewN (Below.refl _ _) m)
    replace hwr := Lib.hid hwr
    clear x0 x1
    by_cases hj0 : j = 0
    · subst hj0
      rw [show ((0 : Nat) : Int) = 0 from rfl]
      go_wp2_with fail
      refine (need_dec (by omega) _ _ _ _).mono ?_
      rintro e w' ⟨rfl, rfl⟩
      go_wp2_with fail
      go_quiet ((go_at_call 38; exact Calls.quiet_of_same (need_same _ _ _ _)))
      go_wp2_with fail
      exact ⟨⟨1, by omega, rfl, m + nq, by rw [hwr.out, World.drewN_drewN]⟩, by simp [intOf]⟩
    obtain rfl : j = 1 := by omega
    rw [show ((1 : Nat) : Int) = 1 from rfl]
    have hy : decide (nb y = 73) = false := decide_eq_false hyn
    go_wp2_with fail
    refine (need_same _ _ _ _).mono ?_
    rintro e w' ⟨rfl, rfl⟩
    go_wp2_with fail
    go_still_tail 8, (by kernel_rfl)
    change wpList _ _ _ _ _ w'.drew
    replace hBr : Hid (Below w.heap.size w w'.drew) := Lib.hid hBr.out.drew
    clear hwr y0 y1
    generalize w'.drew = wd at hBr ⊢
    go_wp2_with fail
    refine (need_no kMagic 1 101 _ _ (by first | rfl | (exact decide_eq_false (by omega)) | (exact hy) | (simp; omega))).mono ?_
    rintro e w2 ⟨q, rfl, hq, hF, hB2⟩
    have hB3 := Lib.hid (later' hBr.out hB2 hBr.out.size)
    have hq2 : w.heap.size ≤ q := Nat.le_trans hBr.out.size hq
    replace hF := Lib.hid hF
    clear hBr hB2
    go_wp2_with fail
    exact ⟨rfl, q, rfl, hq2, hF.out, hB3.out⟩

set_option maxHeartbeats 8000000 in
theorem peek_m2 (b o c n : Nat) (hn : 2 < n) (hn2 : n ≤ 140737488355328) (y : UInt8) (hyn : nb y ≠ 77) (w : World) (x0 : w.cell? ⟨b, o, none⟩ = some (.int .u8 82)) (x1 : w.cell? ⟨b, o + 1, none⟩ = some (.int .u8 73)) (x2 : w.cell? ⟨b, o + 2, none⟩ = some (.int .u8 (nb y))) :
    Calls Tryd.prog 37 #[.slice (some ⟨b, o, none⟩) n c] w (PeekBad w ⟨kMagic, 2, 101⟩) := by
  have hni : (2 : Int) < (n : Int) := by omega
  go_enter Tryd.func37, Tryd.ntmps37
  go_wp2_with fail
  go_loopw [4, 6] (fun _ i wr => ∃ k : Nat, k ≤ 2 ∧ i = .int .i64 k ∧ ∃ m, wr = w.drewN m) (fun _ i _ => 4 - (intOf i).toNat)
  case atStart => exact ⟨0, by omega, rfl, 0, rfl⟩
  case round =>
    obtain ⟨j, hj, rfl, m, hwr⟩ := hrel
    have y0 : wr.cell? ⟨b, o, none⟩ = some (.int .u8 82) := by rw [hwr]; exact x0
    have y1 : wr.cell? ⟨b, o + 1, none⟩ = some (.int .u8 73) := by rw [hwr]; exact x1
    have y2 : wr.cell? ⟨b, o + 2, none⟩ = some (.int .u8 (nb y)) := by rw [hwr]; exact x2
    have hBr : Hid (Below w.heap.size w wr) := Lib.hid (by rw [hwr]; exact below_drewN (Below.refl _ _) m)
    replace hwr := Lib.hid hwr
    clear x0 x1 x2
    by_cases hj0 : j = 0
    · subst hj0
      rw [show ((0 : Nat) : Int) = 0 from rfl]
      go_wp2_with fail
      refine (need_dec (by omega) _ _ _ _).mono ?_
      rintro e w' ⟨rfl, rfl⟩
      go_wp2_with fail
      go_quiet ((go_at_call 38; exact Calls.quiet_of_same (need_same _ _ _ _)))
      go_wp2_with fail
      exact ⟨⟨1, by omega, rfl, m + nq, by rw [hwr.out, World.drewN_drewN]⟩, by simp [intOf]⟩
    by_cases hj1 : j = 1
    · subst hj1
      rw [show ((1 : Nat) : Int) = 1 from rfl]
      go_wp2_with fail
      refine (need_dec (by omega) _ _ _ _).mono ?_
      rintro e w' ⟨rfl, rfl⟩
      go_wp2_with fail
      go_quiet ((go_at_call 38; exact Calls.quiet_of_same (need_same _ _ _ _)))
      go_wp2_with fail
      exact ⟨⟨2, by omega, rfl, m + nq, by rw [hwr.out, World.drewN_drewN]⟩, by simp [intOf]⟩
    obtain rfl : j = 2 := by omega
    rw [show ((2 : Nat) : Int) = 2 from rfl]
    have hy : decide (nb y = 77) = false := decide_eq_false hyn
    go_wp2_with fail
    refine (need_same _ _ _ _).mono ?_
    rintro e w' ⟨rfl, rfl⟩
    go_wp2_with fail
    go_still_tail 8, (by kernel_rfl)
    change wpList _ _ _ _ _ w'.drew
    replace hBr : Hid (Below w.heap.size w w'.drew) := Lib.hid hBr.out.drew
    clear hwr y0 y1 y2
    generalize w'.drew = wd at hBr ⊢
    go_wp2_with fail
    refine (need_no kMagic 2 101 _ _ (by first | rfl | (exact decide_eq_false (by omega)) | (exact hy) | (simp; omega))).mono ?_
    rintro e w2 ⟨q, rfl, hq, hF, hB2⟩
    have hB3 := Lib.hid (later' hBr.out hB2 hBr.out.size)
    have hq2 : w.heap.size ≤ q := Nat.le_trans hBr.out.size hq
    replace hF := Lib.hid hF
    clear hBr hB2
    go_wp2_with fail
    exact ⟨rfl, q, rfl, hq2, hF.out, hB3.out⟩

set_option maxHeartbeats 8000000 in
theorem peek_m3 (b o c n : Nat) (hn : 3 < n) (hn2 : n ≤ 140737488355328) (y : UInt8) (hyn : nb y ≠ 69) (w : World) (x0 : w.cell? ⟨b, o, none⟩ = some (.int .u8 82)) (x1 : w.cell? ⟨b, o + 1, none⟩ = some (.int .u8 73)) (x2 : w.cell? ⟨b, o + 2, none⟩ = some (.int .u8 77)) (x3 : w.cell? ⟨b, o + 3, none⟩ = some (.int .u8 (nb y))) :
    Calls Tryd.prog 37 #[.slice (some ⟨b, o, none⟩) n c] w (PeekBad w ⟨kMagic, 3, 101⟩) := by
  have hni : (3 : Int) < (n : Int) := by omega
  go_enter Tryd.func37, Tryd.ntmps37
  go_wp2_with fail
  go_loopw [4, 6] (fun _ i wr => ∃ k : Nat, k ≤ 3 ∧ i = .int .i64 k ∧ ∃ m, wr = w.drewN m) (fun _ i _ => 4 - (intOf i).toNat)
  case atStart => exact ⟨0, by omega, rfl, 0, rfl⟩
  case round =>
    obtain ⟨j, hj, rfl, m, hwr⟩ := hrel
    have y0 : wr.cell? ⟨b, o, none⟩ = some (.int .u8 82) := by rw [hwr]; exact x0
    have y1 : wr.cell? ⟨b, o + 1, none⟩ = some (.int .u8 73) := by rw [hwr]; exact x1
    have y2 : wr.cell? ⟨b, o + 2, none⟩ = some (.int .u8 77) := by rw [hwr]; exact x2
    have y3 : wr.cell? ⟨b, o + 3, none⟩ = some (.int .u8 (nb y)) := by rw [hwr]; exact x3
    have hBr : Hid (Below w.heap.size w wr) := Lib.hid (by rw [hwr]; exact below_drewN (Below.refl _ _) m)
    replace hwr := Lib.hid hwr
    clear x0 x1 x2 x3
    by_cases hj0 : j = 0
    · subst hj0
      rw [show ((0 : Nat) : Int) = 0 from rfl]
      go_wp2_with fail
      refine (need_dec (by omega) _ _ _ _).mono ?_
      rintro e w' ⟨rfl, rfl⟩
      go_wp2_with fail
      go_quiet ((go_at_call 38; exact Calls.quiet_of_same (need_same _ _ _ _)))
      go_wp2_with fail
      exact ⟨⟨1, by omega, rfl, m + nq, by rw [hwr.out, World.drewN_drewN]⟩, by simp [intOf]⟩
    by_cases hj1 : j = 1
    · subst hj1
      rw [show ((1 : Nat) : Int) = 1 from rfl]
      go_wp2_with fail
      refine (need_dec (by omega) _ _ _ _).mono ?_
      rintro e w' ⟨rfl, rfl⟩
      go_wp2_with fail
      go_quiet ((go_at_call 38; exact Calls.quiet_of_same (need_same _ _ _ _)))
      go_wp2_with fail
      exact ⟨⟨2, by omega, rfl, m + nq, by rw [hwr.out, World.drewN_drewN]⟩, by simp [intOf]⟩
    by_cases hj2 : j = 2
    · subst hj2
      rw [show ((2 : Nat) : Int) = 2 from rfl]
      go_wp2_with fail
      refine (need_dec (by omega) _ _ _ _).mono ?_
      rintro e w' ⟨rfl, rfl⟩
      go_wp2_with fail
      go_quiet ((go_at_call 38; exact Calls.quiet_of_same (need_same _ _ _ _)))
      go_wp2_with fail
      exact ⟨⟨3, by omega, rfl, m + nq, by rw [hwr.out, World.drewN_drewN]⟩, by simp [intOf]⟩
    obtain rfl : j = 3 := by omega
    rw [show ((3 : Nat) : Int) = 3 from rfl]
    have hy : decide (nb y = 69) = false := decide_eq_false hyn
    go_wp2_with fail
    refine (need_same _ _ _ _).mono ?_
    rintro e w' ⟨rfl, rfl⟩
    go_wp2_with fail
    go_still_tail 8, (by kernel_rfl)
    change wpList _ _ _ _ _ w'.drew
    replace hBr : Hid (Below w.heap.size w w'.drew) := Lib.hid hBr.out.drew
    clear hwr y0 y1 y2 y3
    generalize w'.drew = wd at hBr ⊢
    go_wp2_with fail
    refine (need_no kMagic 3 101 _ _ (by first | rfl | (exact decide_eq_false (by omega)) | (exact hy) | (simp; omega))).mono ?_
    rintro e w2 ⟨q, rfl, hq, hF, hB2⟩
    have hB3 := Lib.hid (later' hBr.out hB2 hBr.out.size)
    have hq2 : w.heap.size ≤ q := Nat.le_trans hBr.out.size hq
    replace hF := Lib.hid hF
    clear hBr hB2
    go_wp2_with fail
    exact ⟨rfl, q, rfl, hq2, hF.out, hB3.out⟩

set_option maxHeartbeats 8000000 in
theorem peek_v (b o c n : Nat) (hn : 4 < n) (hn2 : n ≤ 140737488355328) (y : UInt8) (hyn : nb y ≠ 1) (w : World) (x0 : w.cell? ⟨b, o, none⟩ = some (.int .u8 82)) (x1 : w.cell? ⟨b, o + 1, none⟩ = some (.int .u8 73)) (x2 : w.cell? ⟨b, o + 2, none⟩ = some (.int .u8 77)) (x3 : w.cell? ⟨b, o + 3, none⟩ = some (.int .u8 69)) (x4 : w.cell? ⟨b, o + 4, none⟩ = some (.int .u8 (nb y))) :
    Calls Tryd.prog 37 #[.slice (some ⟨b, o, none⟩) n c] w (PeekBad w ⟨kVersion, 4, 102⟩) := by
  go_enter Tryd.func37, Tryd.ntmps37
  go_wp2_with fail
  go_loopw [4, 6] (fun _ i wr => ∃ k : Nat, k ≤ 4 ∧ i = .int .i64 k ∧ ∃ m, wr = w.drewN m) (fun _ i _ => 4 - (intOf i).toNat)
  case atStart => exact ⟨0, by omega, rfl, 0, rfl⟩
  case round =>
    obtain ⟨j, hj, rfl, m, hwr⟩ := hrel
    have y0 : wr.cell? ⟨b, o, none⟩ = some (.int .u8 82) := by rw [hwr]; exact x0
    have y1 : wr.cell? ⟨b, o + 1, none⟩ = some (.int .u8 73) := by rw [hwr]; exact x1
    have y2 : wr.cell? ⟨b, o + 2, none⟩ = some (.int .u8 77) := by rw [hwr]; exact x2
    have y3 : wr.cell? ⟨b, o + 3, none⟩ = some (.int .u8 69) := by rw [hwr]; exact x3
    have y4 : wr.cell? ⟨b, o + 4, none⟩ = some (.int .u8 (nb y)) := by rw [hwr]; exact x4
    have hBr : Hid (Below w.heap.size w wr) := Lib.hid (by rw [hwr]; exact below_drewN (Below.refl _ _) m)
    replace hwr := Lib.hid hwr
    clear x0 x1 x2 x3 x4
    by_cases hj0 : j = 0
    · subst hj0
      rw [show ((0 : Nat) : Int) = 0 from rfl]
      go_wp2_with fail
      refine (need_dec (by omega) _ _ _ _).mono ?_
      rintro e w' ⟨rfl, rfl⟩
      go_wp2_with fail
      go_quiet ((go_at_call 38; exact Calls.quiet_of_same (need_same _ _ _ _)))
      go_wp2_with fail
      exact ⟨⟨1, by omega, rfl, m + nq, by rw [hwr.out, World.drewN_drewN]⟩, by simp [intOf]⟩
    by_cases hj1 : j = 1
    · subst hj1
      rw [show ((1 : Nat) : Int) = 1 from rfl]
      go_wp2_with fail
      refine (need_dec (by omega) _ _ _ _).mono ?_
      rintro e w' ⟨rfl, rfl⟩
      go_wp2_with fail
      go_quiet ((go_at_call 38; exact Calls.quiet_of_same (need_same _ _ _ _)))
      go_wp2_with fail
      exact ⟨⟨2, by omega, rfl, m + nq, by rw [hwr.out, World.drewN_drewN]⟩, by simp [intOf]⟩
    by_cases hj2 : j = 2
    · subst hj2
      rw [show ((2 : Nat) : Int) = 2 from rfl]
      go_wp2_with fail
      refine (need_dec (by omega) _ _ _ _).mono ?_
      rintro e w' ⟨rfl, rfl⟩
      go_wp2_with fail
      go_quiet ((go_at_call 38; exact Calls.quiet_of_same (need_same _ _ _ _)))
      go_wp2_with fail
      exact ⟨⟨3, by omega, rfl, m + nq, by rw [hwr.out, World.drewN_drewN]⟩, by simp [intOf]⟩
    by_cases hj3 : j = 3
    · subst hj3
      rw [show ((3 : Nat) : Int) = 3 from rfl]
      go_wp2_with fail
      refine (need_dec (by omega) _ _ _ _).mono ?_
      rintro e w' ⟨rfl, rfl⟩
      go_wp2_with fail
      go_quiet ((go_at_call 38; exact Calls.quiet_of_same (need_same _ _ _ _)))
      go_wp2_with fail
      exact ⟨⟨4, by omega, rfl, m + nq, by rw [hwr.out, World.drewN_drewN]⟩, by simp [intOf]⟩
    obtain rfl : j = 4 := by omega
    rw [show ((4 : Nat) : Int) = 4 from rfl]
    go_wp2_with fail
    refine (need_dec (by omega) _ _ _ _).mono ?_
    rintro e w' ⟨rfl, rfl⟩
    go_wp2_with fail
    refine (need_no kVersion 4 102 _ _ (by first | rfl | (exact decide_eq_false (by omega)) | (exact hy) | (simp; omega))).mono ?_
    rintro e w2 ⟨q, rfl, hq, hF, hB2⟩
    have hB3 := Lib.hid (later' hBr.out hB2 hBr.out.size)
    have hq2 : w.heap.size ≤ q := Nat.le_trans hBr.out.size hq
    replace hF := Lib.hid hF
    clear hBr hB2
    go_wp2_with fail
    exact ⟨rfl, q, rfl, hq2, hF.out, hB3.out⟩

set_option maxHeartbeats 8000000 in
theorem peek_klo (b o c n : Nat) (hn : 5 < n) (hn2 : n ≤ 140737488355328) (kd : UInt8) (hk : nb kd < 1) (w : World) (x0 : w.cell? ⟨b, o, none⟩ = some (.int .u8 82)) (x1 : w.cell? ⟨b, o + 1, none⟩ = some (.int .u8 73)) (x2 : w.cell? ⟨b, o + 2, none⟩ = some (.int .u8 77)) (x3 : w.cell? ⟨b, o + 3, none⟩ = some (.int .u8 69)) (x4 : w.cell? ⟨b, o + 4, none⟩ = some (.int .u8 1)) (x5 : w.cell? ⟨b, o + 5, none⟩ = some (.int .u8 (nb kd))) :
    Calls Tryd.prog 37 #[.slice (some ⟨b, o, none⟩) n c] w (PeekBad w ⟨kKind, 5, 152⟩) := by
  go_enter Tryd.func37, Tryd.ntmps37
  go_wp2_with fail
  go_loopw [4, 6] (fun _ i wr => ∃ k : Nat, k ≤ 4 ∧ i = .int .i64 k ∧ ∃ m, wr = w.drewN m) (fun _ i _ => 4 - (intOf i).toNat)
  case atStart => exact ⟨0, by omega, rfl, 0, rfl⟩
  case round =>
    obtain ⟨j, hj, rfl, m, hwr⟩ := hrel
    have y0 : wr.cell? ⟨b, o, none⟩ = some (.int .u8 82) := by rw [hwr]; exact x0
    have y1 : wr.cell? ⟨b, o + 1, none⟩ = some (.int .u8 73) := by rw [hwr]; exact x1
    have y2 : wr.cell? ⟨b, o + 2, none⟩ = some (.int .u8 77) := by rw [hwr]; exact x2
    have y3 : wr.cell? ⟨b, o + 3, none⟩ = some (.int .u8 69) := by rw [hwr]; exact x3
    have y4 : wr.cell? ⟨b, o + 4, none⟩ = some (.int .u8 1) := by rw [hwr]; exact x4
    have y5 : wr.cell? ⟨b, o + 5, none⟩ = some (.int .u8 (nb kd)) := by rw [hwr]; exact x5
    have hBr : Hid (Below w.heap.size w wr) := Lib.hid (by rw [hwr]; exact below_drewN (Below.refl _ _) m)
    replace hwr := Lib.hid hwr
    clear x0 x1 x2 x3 x4 x5
    by_cases hj0 : j = 0
    · subst hj0
      rw [show ((0 : Nat) : Int) = 0 from rfl]
      go_wp2_with fail
      refine (need_dec (by omega) _ _ _ _).mono ?_
      rintro e w' ⟨rfl, rfl⟩
      go_wp2_with fail
      go_quiet ((go_at_call 38; exact Calls.quiet_of_same (need_same _ _ _ _)))
      go_wp2_with fail
      exact ⟨⟨1, by omega, rfl, m + nq, by rw [hwr.out, World.drewN_drewN]⟩, by simp [intOf]⟩
    by_cases hj1 : j = 1
    · subst hj1
      rw [show ((1 : Nat) : Int) = 1 from rfl]
      go_wp2_with fail
      refine (need_dec (by omega) _ _ _ _).mono ?_
      rintro e w' ⟨rfl, rfl⟩
      go_wp2_with fail
      go_quiet ((go_at_call 38; exact Calls.quiet_of_same (need_same _ _ _ _)))
      go_wp2_with fail
      exact ⟨⟨2, by omega, rfl, m + nq, by rw [hwr.out, World.drewN_drewN]⟩, by simp [intOf]⟩
    by_cases hj2 : j = 2
    · subst hj2
      rw [show ((2 : Nat) : Int) = 2 from rfl]
      go_wp2_with fail
      refine (need_dec (by omega) _ _ _ _).mono ?_
      rintro e w' ⟨rfl, rfl⟩
      go_wp2_with fail
      go_quiet ((go_at_call 38; exact Calls.quiet_of_same (need_same _ _ _ _)))
      go_wp2_with fail
      exact ⟨⟨3, by omega, rfl, m + nq, by rw [hwr.out, World.drewN_drewN]⟩, by simp [intOf]⟩
    by_cases hj3 : j = 3
    · subst hj3
      rw [show ((3 : Nat) : Int) = 3 from rfl]
      go_wp2_with fail
      refine (need_dec (by omega) _ _ _ _).mono ?_
      rintro e w' ⟨rfl, rfl⟩
      go_wp2_with fail
      go_quiet ((go_at_call 38; exact Calls.quiet_of_same (need_same _ _ _ _)))
      go_wp2_with fail
      exact ⟨⟨4, by omega, rfl, m + nq, by rw [hwr.out, World.drewN_drewN]⟩, by simp [intOf]⟩
    obtain rfl : j = 4 := by omega
    rw [show ((4 : Nat) : Int) = 4 from rfl]
    go_wp2_with fail
    refine (need_dec (by omega) _ _ _ _).mono ?_
    rintro e w' ⟨rfl, rfl⟩
    go_wp2_with fail
    refine (need_same _ _ _ _).mono ?_
    rintro e w' ⟨rfl, rfl⟩
    go_wp2_with fail
    refine (need_dec (by omega) _ _ _ _).mono ?_
    rintro e w' ⟨rfl, rfl⟩
    go_wp2_with fail
    refine (need_no kKind 5 152 _ _ (by first | rfl | (exact decide_eq_false (by omega)) | (exact hy) | (simp; omega))).mono ?_
    rintro e w2 ⟨q, rfl, hq, hF, hB2⟩
    have hB3 := Lib.hid (later' hBr.out hB2 hBr.out.size)
    have hq2 : w.heap.size ≤ q := Nat.le_trans hBr.out.size hq
    replace hF := Lib.hid hF
    clear hBr hB2
    go_wp2_with fail
    exact ⟨rfl, q, rfl, hq2, hF.out, hB3.out⟩

set_option maxHeartbeats 8000000 in
theorem peek_khi (b o c n : Nat) (hn : 5 < n) (hn2 : n ≤ 140737488355328) (kd : UInt8) (hk : 6 < nb kd) (w : World) (x0 : w.cell? ⟨b, o, none⟩ = some (.int .u8 82)) (x1 : w.cell? ⟨b, o + 1, none⟩ = some (.int .u8 73)) (x2 : w.cell? ⟨b, o + 2, none⟩ = some (.int .u8 77)) (x3 : w.cell? ⟨b, o + 3, none⟩ = some (.int .u8 69)) (x4 : w.cell? ⟨b, o + 4, none⟩ = some (.int .u8 1)) (x5 : w.cell? ⟨b, o + 5, none⟩ = some (.int .u8 (nb kd))) :
    Calls Tryd.prog 37 #[.slice (some ⟨b, o, none⟩) n c] w (PeekBad w ⟨kKind, 5, 152⟩) := by
  go_enter Tryd.func37, Tryd.ntmps37
  go_wp2_with fail
  go_loopw [4, 6] (fun _ i wr => ∃ k : Nat, k ≤ 4 ∧ i = .int .i64 k ∧ ∃ m, wr = w.drewN m) (fun _ i _ => 4 - (intOf i).toNat)
  case atStart => exact ⟨0, by omega, rfl, 0, rfl⟩
  case round =>
    obtain ⟨j, hj, rfl, m, hwr⟩ := hrel
    have y0 : wr.cell? ⟨b, o, none⟩ = some (.int .u8 82) := by rw [hwr]; exact x0
    have y1 : wr.cell? ⟨b, o + 1, none⟩ = some (.int .u8 73) := by rw [hwr]; exact x1
    have y2 : wr.cell? ⟨b, o + 2, none⟩ = some (.int .u8 77) := by rw [hwr]; exact x2
    have y3 : wr.cell? ⟨b, o + 3, none⟩ = some (.int .u8 69) := by rw [hwr]; exact x3
    have y4 : wr.cell? ⟨b, o + 4, none⟩ = some (.int .u8 1) := by rw [hwr]; exact x4
    have y5 : wr.cell? ⟨b, o + 5, none⟩ = some (.int .u8 (nb kd)) := by rw [hwr]; exact x5
    have hBr : Hid (Below w.heap.size w wr) := Lib.hid (by rw [hwr]; exact below_drewN (Below.refl _ _) m)
    replace hwr := Lib.hid hwr
    clear x0 x1 x2 x3 x4 x5
    by_cases hj0 : j = 0
    · subst hj0
      rw [show ((0 : Nat) : Int) = 0 from rfl]
      go_wp2_with fail
      refine (need_dec (by omega) _ _ _ _).mono ?_
      rintro e w' ⟨rfl, rfl⟩
      go_wp2_with fail
      go_quiet ((go_at_call 38; exact Calls.quiet_of_same (need_same _ _ _ _)))
      go_wp2_with fail
      exact ⟨⟨1, by omega, rfl, m + nq, by rw [hwr.out, World.drewN_drewN]⟩, by simp [intOf]⟩
    by_cases hj1 : j = 1
    · subst hj1
      rw [show ((1 : Nat) : Int) = 1 from rfl]
      go_wp2_with fail
      refine (need_dec (by omega) _ _ _ _).mono ?_
      rintro e w' ⟨rfl, rfl⟩
      go_wp2_with fail
      go_quiet ((go_at_call 38; exact Calls.quiet_of_same (need_same _ _ _ _)))
      go_wp2_with fail
      exact ⟨⟨2, by omega, rfl, m + nq, by rw [hwr.out, World.drewN_drewN]⟩, by simp [intOf]⟩
    by_cases hj2 : j = 2
    · subst hj2
      rw [show ((2 : Nat) : Int) = 2 from rfl]
      go_wp2_with fail
      refine (need_dec (by omega) _ _ _ _).mono ?_
      rintro e w' ⟨rfl, rfl⟩
      go_wp2_with fail
      go_quiet ((go_at_call 38; exact Calls.quiet_of_same (need_same _ _ _ _)))
      go_wp2_with fail
      exact ⟨⟨3, by omega, rfl, m + nq, by rw [hwr.out, World.drewN_drewN]⟩, by simp [intOf]⟩
    by_cases hj3 : j = 3
    · subst hj3
      rw [show ((3 : Nat) : Int) = 3 from rfl]
      go_wp2_with fail
      refine (need_dec (by omega) _ _ _ _).mono ?_
      rintro e w' ⟨rfl, rfl⟩
      go_wp2_with fail
      go_quiet ((go_at_call 38; exact Calls.quiet_of_same (need_same _ _ _ _)))
      go_wp2_with fail
      exact ⟨⟨4, by omega, rfl, m + nq, by rw [hwr.out, World.drewN_drewN]⟩, by simp [intOf]⟩
    obtain rfl : j = 4 := by omega
    rw [show ((4 : Nat) : Int) = 4 from rfl]
    go_wp2_with fail
    refine (need_dec (by omega) _ _ _ _).mono ?_
    rintro e w' ⟨rfl, rfl⟩
    go_wp2_with fail
    refine (need_same _ _ _ _).mono ?_
    rintro e w' ⟨rfl, rfl⟩
    go_wp2_with fail
    refine (need_dec (by omega) _ _ _ _).mono ?_
    rintro e w' ⟨rfl, rfl⟩
    go_wp2_with fail
    refine (need_no kKind 5 152 _ _ (by first | rfl | (exact decide_eq_false (by omega)) | (exact hy) | (simp; omega))).mono ?_
    rintro e w2 ⟨q, rfl, hq, hF, hB2⟩
    have hB3 := Lib.hid (later' hBr.out hB2 hBr.out.size)
    have hq2 : w.heap.size ≤ q := Nat.le_trans hBr.out.size hq
    replace hF := Lib.hid hF
    clear hBr hB2
    go_wp2_with fail
    exact ⟨rfl, q, rfl, hq2, hF.out, hB3.out⟩

set_option maxHeartbeats 8000000 in
theorem peek_l (b o c n : Nat) (hn : 10 ≤ n) (hn2 : n ≤ 140737488355328) (hnc : n ≤ c) (kd : UInt8) (hk1 : 1 ≤ nb kd) (hk6 : nb kd ≤ 6) (ns : List UInt8) (hns : ns.length = 4) (hN : 1065189 < numL ns) (w : World) (x0 : w.cell? ⟨b, o, none⟩ = some (.int .u8 82)) (x1 : w.cell? ⟨b, o + 1, none⟩ = some (.int .u8 73)) (x2 : w.cell? ⟨b, o + 2, none⟩ = some (.int .u8 77)) (x3 : w.cell? ⟨b, o + 3, none⟩ = some (.int .u8 69)) (x4 : w.cell? ⟨b, o + 4, none⟩ = some (.int .u8 1)) (x5 : w.cell? ⟨b, o + 5, none⟩ = some (.int .u8 (nb kd))) (hs : Bs w (some ⟨b, o + 6, none⟩) ns) :
    Calls Tryd.prog 37 #[.slice (some ⟨b, o, none⟩) n c] w (PeekBad w ⟨kLength, 6, 10⟩) := by
  have c1 : (10 : Int) ≤ (c : Int) := by omega
  replace hs := Lib.hid hs
  go_enter Tryd.func37, Tryd.ntmps37
  go_wp2_with fail
  go_loopw [4, 6] (fun _ i wr => ∃ k : Nat, k ≤ 4 ∧ i = .int .i64 k ∧ ∃ m, wr = w.drewN m) (fun _ i _ => 4 - (intOf i).toNat)
  case atStart => exact ⟨0, by omega, rfl, 0, rfl⟩
  case round =>
    obtain ⟨j, hj, rfl, m, hwr⟩ := hrel
    have y0 : wr.cell? ⟨b, o, none⟩ = some (.int .u8 82) := by rw [hwr]; exact x0
    have y1 : wr.cell? ⟨b, o + 1, none⟩ = some (.int .u8 73) := by rw [hwr]; exact x1
    have y2 : wr.cell? ⟨b, o + 2, none⟩ = some (.int .u8 77) := by rw [hwr]; exact x2
    have y3 : wr.cell? ⟨b, o + 3, none⟩ = some (.int .u8 69) := by rw [hwr]; exact x3
    have y4 : wr.cell? ⟨b, o + 4, none⟩ = some (.int .u8 1) := by rw [hwr]; exact x4
    have y5 : wr.cell? ⟨b, o + 5, none⟩ = some (.int .u8 (nb kd)) := by rw [hwr]; exact x5
    have ysg : Bs wr (some ⟨b, o + 6, none⟩) ns := by rw [hwr]; exact hs.out
    replace ysg := Lib.hid ysg
    have hBr : Hid (Below w.heap.size w wr) := Lib.hid (by rw [hwr]; exact below_drewN (Below.refl _ _) m)
    replace hwr := Lib.hid hwr
    clear x0 x1 x2 x3 x4 x5
    by_cases hj0 : j = 0
    · subst hj0
      rw [show ((0 : Nat) : Int) = 0 from rfl]
      go_wp2_with fail
      refine (need_dec (by omega) _ _ _ _).mono ?_
      rintro e w' ⟨rfl, rfl⟩
      go_wp2_with fail
      go_quiet ((go_at_call 38; exact Calls.quiet_of_same (need_same _ _ _ _)))
      go_wp2_with fail
      exact ⟨⟨1, by omega, rfl, m + nq, by rw [hwr.out, World.drewN_drewN]⟩, by simp [intOf]⟩
    by_cases hj1 : j = 1
    · subst hj1
      rw [show ((1 : Nat) : Int) = 1 from rfl]
      go_wp2_with fail
      refine (need_dec (by omega) _ _ _ _).mono ?_
      rintro e w' ⟨rfl, rfl⟩
      go_wp2_with fail
      go_quiet ((go_at_call 38; exact Calls.quiet_of_same (need_same _ _ _ _)))
      go_wp2_with fail
      exact ⟨⟨2, by omega, rfl, m + nq, by rw [hwr.out, World.drewN_drewN]⟩, by simp [intOf]⟩
    by_cases hj2 : j = 2
    · subst hj2
      rw [show ((2 : Nat) : Int) = 2 from rfl]
      go_wp2_with fail
      refine (need_dec (by omega) _ _ _ _).mono ?_
      rintro e w' ⟨rfl, rfl⟩
      go_wp2_with fail
      go_quiet ((go_at_call 38; exact Calls.quiet_of_same (need_same _ _ _ _)))
      go_wp2_with fail
      exact ⟨⟨3, by omega, rfl, m + nq, by rw [hwr.out, World.drewN_drewN]⟩, by simp [intOf]⟩
    by_cases hj3 : j = 3
    · subst hj3
      rw [show ((3 : Nat) : Int) = 3 from rfl]
      go_wp2_with fail
      refine (need_dec (by omega) _ _ _ _).mono ?_
      rintro e w' ⟨rfl, rfl⟩
      go_wp2_with fail
      go_quiet ((go_at_call 38; exact Calls.quiet_of_same (need_same _ _ _ _)))
      go_wp2_with fail
      exact ⟨⟨4, by omega, rfl, m + nq, by rw [hwr.out, World.drewN_drewN]⟩, by simp [intOf]⟩
    obtain rfl : j = 4 := by omega
    rw [show ((4 : Nat) : Int) = 4 from rfl]
    go_wp2_with fail
    refine (need_dec (by omega) _ _ _ _).mono ?_
    rintro e w' ⟨rfl, rfl⟩
    go_wp2_with fail
    refine (need_same _ _ _ _).mono ?_
    rintro e w' ⟨rfl, rfl⟩
    go_wp2_with fail
    refine (need_dec (by omega) _ _ _ _).mono ?_
    rintro e w' ⟨rfl, rfl⟩
    go_wp2_with fail
    refine (need_same _ _ _ _).mono ?_
    rintro e w' ⟨rfl, rfl⟩
    go_wp2_with fail
    refine (need_dec (by omega) _ _ _ _).mono ?_
    rintro e w' ⟨rfl, rfl⟩
    go_wp2_with fail
    have hnb := (numberOf_any (some ⟨b, o + 6, none⟩) (c - 6) ns w' ysg.out (by omega))
    rw [hns] at hnb
    refine hnb.mono ?_
    rintro e w' ⟨rfl, rfl⟩
    clear hnb
    go_wp2_with fail
    refine (need_no kLength 6 10 _ _ (by first | rfl | (exact decide_eq_false (by omega)) | (exact hy) | (simp; omega))).mono ?_
    rintro e w2 ⟨q, rfl, hq, hF, hB2⟩
    have hB3 := Lib.hid (later' hBr.out hB2 hBr.out.size)
    have hq2 : w.heap.size ≤ q := Nat.le_trans hBr.out.size hq
    replace hF := Lib.hid hF
    clear hBr hB2
    go_wp2_with fail
    exact ⟨rfl, q, rfl, hq2, hF.out, hB3.out⟩

set_option maxHeartbeats 8000000 in
theorem peek_good (b o c n : Nat) (hn : 10 ≤ n) (hn2 : n ≤ 140737488355328) (hnc : n ≤ c) (kd : UInt8) (hk1 : 1 ≤ nb kd) (hk6 : nb kd ≤ 6) (ns : List UInt8) (hns : ns.length = 4) (hN : numL ns ≤ 1065189) (w : World) (x0 : w.cell? ⟨b, o, none⟩ = some (.int .u8 82)) (x1 : w.cell? ⟨b, o + 1, none⟩ = some (.int .u8 73)) (x2 : w.cell? ⟨b, o + 2, none⟩ = some (.int .u8 77)) (x3 : w.cell? ⟨b, o + 3, none⟩ = some (.int .u8 69)) (x4 : w.cell? ⟨b, o + 4, none⟩ = some (.int .u8 1)) (x5 : w.cell? ⟨b, o + 5, none⟩ = some (.int .u8 (nb kd))) (hs : Bs w (some ⟨b, o + 6, none⟩) ns) :
    Calls Tryd.prog 37 #[.slice (some ⟨b, o, none⟩) n c] w fun e w' => e = .returned (.tuple #[.int .i64 (nb kd), .int .i64 (10 + (numL ns : Int) + 4)]) ∧ ∃ m, w' = w.drewN m := by
  have c1 : (10 : Int) ≤ (c : Int) := by omega
  replace hs := Lib.hid hs
  go_enter Tryd.func37, Tryd.ntmps37
  go_wp2_with fail
  go_loopw [4, 6] (fun _ i wr => ∃ k : Nat, k ≤ 4 ∧ i = .int .i64 k ∧ ∃ m, wr = w.drewN m) (fun _ i _ => 4 - (intOf i).toNat)
  case atStart => exact ⟨0, by omega, rfl, 0, rfl⟩
  case round =>
    obtain ⟨j, hj, rfl, m, hwr⟩ := hrel
    have y0 : wr.cell? ⟨b, o, none⟩ = some (.int .u8 82) := by rw [hwr]; exact x0
    have y1 : wr.cell? ⟨b, o + 1, none⟩ = some (.int .u8 73) := by rw [hwr]; exact x1
    have y2 : wr.cell? ⟨b, o + 2, none⟩ = some (.int .u8 77) := by rw [hwr]; exact x2
    have y3 : wr.cell? ⟨b, o + 3, none⟩ = some (.int .u8 69) := by rw [hwr]; exact x3
    have y4 : wr.cell? ⟨b, o + 4, none⟩ = some (.int .u8 1) := by rw [hwr]; exact x4
    have y5 : wr.cell? ⟨b, o + 5, none⟩ = some (.int .u8 (nb kd)) := by rw [hwr]; exact x5
    have ysg : Bs wr (some ⟨b, o + 6, none⟩) ns := by rw [hwr]; exact hs.out
    replace ysg := Lib.hid ysg
    have hBr : Hid (Below w.heap.size w wr) := Lib.hid (by rw [hwr]; exact below_drewN (Below.refl _ _) m)
    replace hwr := Lib.hid hwr
    clear x0 x1 x2 x3 x4 x5
    by_cases hj0 : j = 0
    · subst hj0
      rw [show ((0 : Nat) : Int) = 0 from rfl]
      go_wp2_with fail
      refine (need_dec (by omega) _ _ _ _).mono ?_
      rintro e w' ⟨rfl, rfl⟩
      go_wp2_with fail
      go_quiet ((go_at_call 38; exact Calls.quiet_of_same (need_same _ _ _ _)))
      go_wp2_with fail
      exact ⟨⟨1, by omega, rfl, m + nq, by rw [hwr.out, World.drewN_drewN]⟩, by simp [intOf]⟩
    by_cases hj1 : j = 1
    · subst hj1
      rw [show ((1 : Nat) : Int) = 1 from rfl]
      go_wp2_with fail
      refine (need_dec (by omega) _ _ _ _).mono ?_
      rintro e w' ⟨rfl, rfl⟩
      go_wp2_with fail
      go_quiet ((go_at_call 38; exact Calls.quiet_of_same (need_same _ _ _ _)))
      go_wp2_with fail
      exact ⟨⟨2, by omega, rfl, m + nq, by rw [hwr.out, World.drewN_drewN]⟩, by simp [intOf]⟩
    by_cases hj2 : j = 2
    · subst hj2
      rw [show ((2 : Nat) : Int) = 2 from rfl]
      go_wp2_with fail
      refine (need_dec (by omega) _ _ _ _).mono ?_
      rintro e w' ⟨rfl, rfl⟩
      go_wp2_with fail
      go_quiet ((go_at_call 38; exact Calls.quiet_of_same (need_same _ _ _ _)))
      go_wp2_with fail
      exact ⟨⟨3, by omega, rfl, m + nq, by rw [hwr.out, World.drewN_drewN]⟩, by simp [intOf]⟩
    by_cases hj3 : j = 3
    · subst hj3
      rw [show ((3 : Nat) : Int) = 3 from rfl]
      go_wp2_with fail
      refine (need_dec (by omega) _ _ _ _).mono ?_
      rintro e w' ⟨rfl, rfl⟩
      go_wp2_with fail
      go_quiet ((go_at_call 38; exact Calls.quiet_of_same (need_same _ _ _ _)))
      go_wp2_with fail
      exact ⟨⟨4, by omega, rfl, m + nq, by rw [hwr.out, World.drewN_drewN]⟩, by simp [intOf]⟩
    obtain rfl : j = 4 := by omega
    rw [show ((4 : Nat) : Int) = 4 from rfl]
    go_wp2_with fail
    refine (need_dec (by omega) _ _ _ _).mono ?_
    rintro e w' ⟨rfl, rfl⟩
    go_wp2_with fail
    refine (need_same _ _ _ _).mono ?_
    rintro e w' ⟨rfl, rfl⟩
    go_wp2_with fail
    refine (need_dec (by omega) _ _ _ _).mono ?_
    rintro e w' ⟨rfl, rfl⟩
    go_wp2_with fail
    refine (need_same _ _ _ _).mono ?_
    rintro e w' ⟨rfl, rfl⟩
    go_wp2_with fail
    refine (need_dec (by omega) _ _ _ _).mono ?_
    rintro e w' ⟨rfl, rfl⟩
    go_wp2_with fail
    have hnb := (numberOf_any (some ⟨b, o + 6, none⟩) (c - 6) ns w' ysg.out (by omega))
    rw [hns] at hnb
    refine hnb.mono ?_
    rintro e w' ⟨rfl, rfl⟩
    clear hnb
    go_wp2_with fail
    refine (need_dec (by omega) _ _ _ _).mono ?_
    rintro e w' ⟨rfl, rfl⟩
    have hkd : IntKind.i64.wrap (nb kd) = nb kd := by rw [IntKind.wrap_i64]; omega
    have hadd : wrap64 (10 + (numL ns : Int)) = 10 + (numL ns : Int) := IntWalk.wrap64_in _ ⟨by omega, by omega⟩
    go_wp2_with fail
    go_ret2
    exact ⟨rfl, m, hwr.out⟩

end Go.Proofs.YtmnmmabhmedioaaDoor
