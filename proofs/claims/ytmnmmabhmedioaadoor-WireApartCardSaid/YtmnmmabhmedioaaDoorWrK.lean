/- Wire: a frame that is cut by one byte. -/
import Derived.Test.YtmnmmabhmedioaaDoorWrI
namespace Go.Proofs.YtmnmmabhmedioaaDoor
open Go.RowKit
set_option linter.unusedVariables false
set_option linter.unusedSimpArgs false
set_option maxRecDepth 100000

def kFrame : List UInt8 := [102, 114, 97, 109, 101]

set_option maxHeartbeats 8000000 in
theorem decode_cut (b o c : Nat) (body : List UInt8) (w : World) (hl : body.length = 36) (hc : 50 ≤ c)
    (hb : Bs w (some ⟨b, o, none⟩) ((frameL 5 body).take 49)) :
    Calls Tryd.prog 11 #[.slice (some ⟨b, o, none⟩) 49 c] w fun e w' => ∃ q, e = .returned (.tuple #[.agg Tryd.zeroCells36, errOf q]) ∧ FaultAt w' q ⟨kFrame, 49, 3⟩ ∧ Below w.heap.size w w' := by
  replace hb := Lib.hid hb
  go_enter_defers Tryd.func11, Tryd.ntmps11
  go_upto_region 2 with fail
  have hZ : ((w.alloc (.cells Tryd.zeroCells36 36)).alloc (.cells #[.nilIface] 38)).heap[w.heap.size]? = some (.cells Tryd.zeroCells36 36 (0, 0)) := by
    rw [heap_alloc?, if_neg (by simp)]; exact heap_alloc_new w _
  have hE : ((w.alloc (.cells Tryd.zeroCells36 36)).alloc (.cells #[.nilIface] 38)).heap[w.heap.size + 1]? = some (.cells #[.nilIface] 38 (0, 0)) := by
    rw [heap_alloc?, if_pos (by simp)]
  have hB : Below w.heap.size w ((w.alloc (.cells Tryd.zeroCells36 36)).alloc (.cells #[.nilIface] 38)) := later (boxed _ _) (boxed _ _)
  have hsz : ((w.alloc (.cells Tryd.zeroCells36 36)).alloc (.cells #[.nilIface] 38)).heap.size = w.heap.size + 2 := by simp
  generalize (w.alloc (.cells Tryd.zeroCells36 36)).alloc (.cells #[.nilIface] 38) = w1 at hZ hE hB hsz ⊢
  have hb1 := hb.out.on hB
  replace hZ := Lib.hid hZ
  replace hE := Lib.hid hE
  go_wp2_with fail
  refine (peek50 b o c _ w1 hl 3 (by omega) hc hb1).mono ?_
  rintro e w2 ⟨rfl, md, hw2⟩
  have hB2 : Below w.heap.size w w2 := by rw [hw2]; exact below_drewN hB md
  have hs2 : w2.heap.size = w.heap.size + 2 := by rw [hw2]; exact hsz
  have hZ2 : w2.heap[w.heap.size]? = some (.cells Tryd.zeroCells36 36 (0, 0)) := by rw [hw2]; exact hZ.out
  have hE2 : w2.heap[w.heap.size + 1]? = some (.cells #[.nilIface] 38 (0, 0)) := by rw [hw2]; exact hE.out
  clear hw2 hZ hE hB hsz hb1 hb
  replace hZ2 := Lib.hid hZ2
  replace hE2 := Lib.hid hE2
  replace hB2 := Lib.hid hB2
  go_wp2_with fail
  refine (need_false kFrame 49 3 _).mono ?_
  rintro e w3 ⟨q, rfl, hq, hF, hB3⟩
  have hE3 := heap_on hB3 hE2.out
  have hZ3 := heap_on hB3 hZ2.out
  have hB33 := later' hB2.out hB3
  have ce : w3.cell? ⟨w.heap.size + 1, 0, none⟩ = some .nilIface := cell_of hE3 rfl
  have cf : w3.frozen? ⟨w.heap.size + 1, 0, none⟩ = false := free_of hE3
  have hq2 : w.heap.size + 2 ≤ q := by omega
  clear hZ2 hE2 hB2 hB3 hq
  replace hE3 := Lib.hid hE3
  replace hZ3 := Lib.hid hZ3
  replace hF := Lib.hid hF
  go_wp2_with fail
  have hEf := cell_of (heap_set (o := 0) hE3.out (errOf q)) (off := 0) rfl
  have hKf : Keep (fun k => k = w.heap.size + 1) w3 (w3.setCell ⟨w.heap.size + 1, 0, none⟩ (errOf q)) := Keep.set (fun k => k = w.heap.size + 1) _ _ _ rfl
  have hZf := hKf.heap (show ¬ w.heap.size = w.heap.size + 1 by omega) hZ3.out
  have hFf : FaultAt (w3.setCell ⟨w.heap.size + 1, 0, none⟩ (errOf q)) q ⟨kFrame, 49, 3⟩ := hKf.heap (show ¬ q = w.heap.size + 1 by omega) hF.out
  have hBf := below_keep hB33 hKf (fun i e => by omega) hB33.size
  have hif : (Tryd.prog.info? 36).map (·.size) = some Tryd.zeroCells36.size := by kernel_rfl
  have hL := run_loadVar_row (P := Tryd.prog) _ w.heap.size 36 36 _ (0, 0) _ hZf Tryd.underlying36 rfl hif
  have hL2 : (loadVar 38 ⟨w.heap.size + 1, 0, none⟩).run Tryd.prog (w3.setCell ⟨w.heap.size + 1, 0, none⟩ (errOf q)) = .ok (errOf q) (w3.setCell ⟨w.heap.size + 1, 0, none⟩ (errOf q)) := by simp [go_sem, hEf]
  refine leaves_cons (f := 36) (args := #[.pointer (some ⟨w.heap.size + 1, 0, none⟩)]) (by simp) (by simp [go_sem]) ?_
  refine (caught_panicking ⟨w.heap.size + 1, 0, none⟩ q .nilIface [] _ ce cf).mono ?_
  rintro e u' w'' ⟨rfl, rfl, rfl⟩
  exact ⟨_, results_cell2 rfl _ _ ⟨w.heap.size, 0, none⟩ ⟨w.heap.size + 1, 0, none⟩ (.agg Tryd.zeroCells36) (errOf q) rfl rfl hL hL2, q, rfl, hFf, hBf⟩
end Go.Proofs.YtmnmmabhmedioaaDoor
