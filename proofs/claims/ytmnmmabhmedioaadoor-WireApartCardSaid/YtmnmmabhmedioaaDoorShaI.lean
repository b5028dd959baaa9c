/- SHA-512: Sum of bytes. -/
import Derived.Test.YtmnmmabhmedioaaDoorShaH
namespace Go.Proofs.YtmnmmabhmedioaaDoor
open Go.RowKit
set_option linter.unusedVariables false
set_option linter.unusedSimpArgs false

set_option maxRecDepth 100000 in
set_option maxHeartbeats 8000000 in
theorem sum1_any (b o c : Nat) (l : List UInt8) (w : World) (hc : l.length ≤ c) (hl : l.length ≤ 1099511627776) (hX : Bs w (some ⟨b, o, none⟩) l) (hb : b < w.heap.size) :
    Calls Tryd.prog 39 #[.slice (some ⟨b, o, none⟩) l.length c] w fun e w' => e = .returned (.agg ((sha l).map B8).toArray) ∧ Below w.heap.size w w' := by
  replace hX := Lib.hid hX
  go_enter Tryd.func39, Tryd.ntmps39
  go_upto_region 1 with fail
  have hz := Lib.hid (heap_alloc_new w (.cells z64 97))
  have hsz : (w.alloc (.cells z64 97)).heap.size = w.heap.size + 1 := by simp
  have hbl := Lib.hid (boxed w (.cells z64 97))
  have hX1 := Lib.hid (hX.out.on hbl.out)
  generalize hw1 : w.alloc (.cells z64 97) = w1 at hz hsz hbl hX1
  have e1 : w1 = w.alloc (.cells z64 97) := hw1.symm
  refine Eq.mp (congrArg _ (show w1 = w.alloc (.cells _ 97) from e1)) ?_
  clear e1 hw1
  have hP : ∀ T i, i < [Part.mk b o c l].length → PartIn (w1.alloc (.cells #[.slice (some ⟨b, o, none⟩) l.length c] T)) ⟨w1.heap.size, 0 + i, none⟩ ([Part.mk b o c l].getD i Part.zero) := fun T i hi => by
    obtain rfl : i = 0 := by simpa using hi
    exact ⟨cell_of (heap_alloc_new _ _) rfl, hc, (hX1.out.on (boxed _ _)).at, by simp; omega⟩
  rw [hsz] at hP
  replace hP := Lib.hid hP
  go_wp2_with fail
  refine (join_any (w.heap.size + 1) 0 1 [⟨b, o, c, l⟩] _ (hP.out _) (by simpa [partsL] using hl) (by simp)).mono ?_
  rintro e w2 ⟨rfl, hB2⟩
  rename_i hK
  have hb2 := Lib.hid (later (boxed _ _) hB2)
  have hd2 := Lib.hid (heap_on hb2.out hz.out)
  have hB3 := Lib.hid (later hbl.out hb2.out)
  have hpl : partsL [⟨b, o, c, l⟩] = l := by simp [partsL]
  rw [hpl]
  have hs2 := hb2.out.size
  have hsD : ((sha l).map B8).toArray.size = 64 := by simp [sha_length]
  have hone : ((sha l).map B8).toArray.all (·.oneCell') = true := all_oneCell_toArray one_bytes
  clear hB2 hb2 hP hz
  generalize hD : ((sha l).map B8).toArray = D at hsD hone ⊢
  have hif : (Tryd.prog.info? 97).map (·.size) = some D.size := by rw [hsD]; kernel_rfl
  refine hK _ _ ?_
  refine wpList_storeW _ rfl _ _ _ rfl w.heap.size D rfl rfl z64 _ hd2.out hif (by rw [hsD]; rfl) hone ?_
  refine wpList_nil ?_
  go_wp2
  exact bodyPost_ret (results_cell_row rfl _ _ w.heap.size 97 D (0, 0) _ rfl (setRow_heap _ _ _ _ _ _ hd2.out) Tryd.underlying97 rfl hif) rfl ⟨by rw [hD], below_keep hB3.out (setRow_keep _ _ _) (fun i e => by omega) (by omega)⟩
end Go.Proofs.YtmnmmabhmedioaaDoor
