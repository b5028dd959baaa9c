/- hexOf. -/
import Derived.Test.YtabinbeohecebaaDoorRuW
namespace Go.Proofs.YtabinbeohecebaaDoor
open Go.RowKit
set_option linter.unusedVariables false
set_option linter.unusedSimpArgs false

set_option maxRecDepth 100000 in
theorem dig_at (j : Nat) (hj : j < 16) (w : World) : (Instr.index 9 (.string ⟨#[48, 49, 50, 51, 52, 53, 54, 55, 56, 57, 97, 98, 99, 100, 101, 102]⟩) (.int .u8 (j : Int))).run Tryd.prog w = .ok (B8 (dg16.getD j 0)) w := by
  match j, hj with
  | 0, _ => rfl
  | 1, _ => rfl
  | 2, _ => rfl
  | 3, _ => rfl
  | 4, _ => rfl
  | 5, _ => rfl
  | 6, _ => rfl
  | 7, _ => rfl
  | 8, _ => rfl
  | 9, _ => rfl
  | 10, _ => rfl
  | 11, _ => rfl
  | 12, _ => rfl
  | 13, _ => rfl
  | 14, _ => rfl
  | 15, _ => rfl
  | j + 16, h => exact absurd h (by omega)
theorem dig_hi (x : UInt8) (w : World) : (Instr.index 9 (.string ⟨#[48, 49, 50, 51, 52, 53, 54, 55, 56, 57, 97, 98, 99, 100, 101, 102]⟩) (.int .u8 (nb x / 16))).run Tryd.prog w = .ok (B8 (dg16.getD (x.toNat / 16) 0)) w := by
  have := x.toNat_lt
  rw [show nb x / 16 = ((x.toNat / 16 : Nat) : Int) from by unfold nb; omega]
  exact dig_at _ (by omega) w
theorem dig_lo (x : UInt8) (w : World) : (Instr.index 9 (.string ⟨#[48, 49, 50, 51, 52, 53, 54, 55, 56, 57, 97, 98, 99, 100, 101, 102]⟩) (.int .u8 (nb x % 16))).run Tryd.prog w = .ok (B8 (dg16.getD (x.toNat % 16) 0)) w := by
  have := x.toNat_lt
  rw [show nb x % 16 = ((x.toNat % 16 : Nat) : Int) from by unfold nb; omega]
  exact dig_at _ (by omega) w
theorem and15 (x : UInt8) : bits .and .u8 (nb x) 15 = nb x % 16 := by
  have h := nb_bd x
  exact by go_bits2 <;> omega

set_option maxHeartbeats 4000000 in
theorem hexOf_any (A : Option Addr) (c : Nat) (l : List UInt8) (w : World) (hb : Bs w A l) (hl : l.length ≤ 64) :
    Calls Tryd.prog 23 #[.slice A l.length c] w fun e w' => e = .returned (.string ⟨(hexL l).toArray⟩) ∧ Below w.heap.size w w' := by
  have HB := Lib.hid hb
  clear hb
  go_enter Tryd.func23, Tryd.ntmps23
  go_wp2
  go_loopw [5, 8] (fun _ i wr => ∃ k : Nat, k ≤ l.length ∧ i = .int .i64 k ∧ Lib.IsBuilder 40 5 w.heap.size w.heap.size (Lib.byteCells (hexL (l.take k))) wr ∧ Below w.heap.size w wr) (fun _ i _ => l.length - (intOf i).toNat)
  case atStart => exact ⟨0, Nat.zero_le _, rfl, Lib.fresh_isBuilder 40 5 w, boxed _ _⟩
  case round =>
    obtain ⟨k, hk, rfl, hI, hB⟩ := hrel
    by_cases hlt : k < l.length
    · obtain ⟨b, o, rfl, H⟩ := HB.out (by omega)
      have c1 := cell_on hB (H k hlt)
      have hs := Lib.hid (hexL_take_succ hlt)
      have hlen : (Lib.byteCells (hexL (l.take k))).length ≤ 128 := by
        rw [Lib.byteCells_length, hexL_length, List.length_take]; omega
      have hI := Lib.hid hI
      have hBs := hB.size
      have hB := Lib.hid hB
      clear H HB
      generalize hexL (l.take k) = acc at hI hs hlen
      generalize l.getD k 0 = x at c1 hs
      have hx := nb_bd x
      have d1 := dig_hi x
      have d2 := dig_lo x
      have d3 := and15 x
      go_wp2_with fail
      refine (bu_byteW w.heap.size w.heap.size _ _ _ hI.out (by omega) hBs).mono ?_
      rintro e w1 ⟨rfl, h1, b1⟩
      have h1 := Lib.hid h1
      have hB1 := Lib.hid (hB.out.trans b1)
      have hBs1 := hB1.out.size
      clear b1
      go_wp2_with fail
      refine (bu_byteW w.heap.size w.heap.size _ _ _ h1.out (by simp; omega) hBs1).mono ?_
      rintro e w2 ⟨rfl, h2, b2⟩
      have h2 := Lib.hid h2
      have hB2 := Lib.hid (hB1.out.trans b2)
      clear b2
      go_wp2
      go_roundw
      case rel =>
        refine ⟨k + 1, by omega, by go_num, ?_, hB2.out⟩
        rw [hs.out, Lib.byteCells_append]
        simpa [Lib.byteCells, hexD, nb] using h2.out
      case measure => simp [intOf]; omega
    · have : k = l.length := by omega
      subst this
      rw [List.take_length] at hI
      go_wp2_with (go_at_call 14; refine (Tryd.Builder_String_any w.heap.size w.heap.size _ _ hI hB.size).mono ?_)
      rintro e w1 ⟨rfl, h1⟩
      go_wp2
      go_ret
      exact ⟨rfl, hB.trans h1⟩
end Go.Proofs.YtabinbeohecebaaDoor
