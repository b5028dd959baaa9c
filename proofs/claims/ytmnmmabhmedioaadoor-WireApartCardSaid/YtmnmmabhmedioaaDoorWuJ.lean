/- Wire: a frame that is cut: Decode. (Printed by gen_dec.py short.) -/
import Derived.Test.YtmnmmabhmedioaaDoorWuI
namespace Go.Proofs.YtmnmmabhmedioaaDoor
open Go.RowKit
set_option linter.unusedVariables false
set_option linter.unusedSimpArgs false
set_option maxRecDepth 100000

abbrev DecBad (w : World) (f : FD) (e : Ending) (w' : World) : Prop := ∃ q, e = .returned (.tuple #[.agg Tryd.zeroCells36, errOf q]) ∧ FaultAt w' q f ∧ Below w.heap.size w w'
set_option maxHeartbeats 8000000 in
theorem decode_peekbad (A : Option Addr) (n c : Nat) (f : FD) (w : World) (hp : ∀ w1 : World, Below w.heap.size w w1 → Calls Tryd.prog 37 #[.slice A n c] w1 fun e w' => ∃ q, e = Threw q ∧ w1.heap.size ≤ q ∧ FaultAt w' q f ∧ Below w1.heap.size w1 w') :
    Calls Tryd.prog 11 #[.slice A n c] w (DecBad w f) := by
  replace hp := Lib.hid hp
  go_enter_defers Tryd.func11, Tryd.ntmps11
  go_upto_region 2 with fail
  have hZ : ((w.alloc (.cells Tryd.zeroCells36 36)).alloc (.cells #[.nilIface] 38)).heap[w.heap.size]? = some (.cells Tryd.zeroCells36 36 (0, 0)) := by
    rw [heap_alloc?, if_neg (by simp)]; exact heap_alloc_new w _
  have hE : ((w.alloc (.cells Tryd.zeroCells36 36)).alloc (.cells #[.nilIface] 38)).heap[w.heap.size + 1]? = some (.cells #[.nilIface] 38 (0, 0)) := by
    rw [heap_alloc?, if_pos (by simp)]
  have hB : Below w.heap.size w ((w.alloc (.cells Tryd.zeroCells36 36)).alloc (.cells #[.nilIface] 38)) := later (boxed _ _) (boxed _ _)
  have hsz : ((w.alloc (.cells Tryd.zeroCells36 36)).alloc (.cells #[.nilIface] 38)).heap.size = w.heap.size + 2 := by simp
  generalize ((w.alloc (.cells Tryd.zeroCells36 36)).alloc (.cells #[.nilIface] 38)) = w1 at hZ hE hB hsz ⊢
  replace hZ := Lib.hid hZ
  replace hE := Lib.hid hE
  go_wp2_with fail
  refine (hp.out w1 hB).mono ?_
  rintro e w3 ⟨q, rfl, hq, hF, hBn⟩
  have hs2 := hsz
  have hZ2 := hZ
  have hE2 := hE
  have hB2 := Lib.hid hB
  clear hZ hE hB hsz hp
  have hE3 := heap_on hBn hE2.out
  have hZ3 := heap_on hBn hZ2.out
  have hB33 := later' hB2.out hBn
  have ce : w3.cell? ⟨w.heap.size + 1, 0, none⟩ = some .nilIface := cell_of hE3 rfl
  have cf : w3.frozen? ⟨w.heap.size + 1, 0, none⟩ = false := free_of hE3
  have hq2 : w.heap.size + 2 ≤ q := by omega
  clear hZ2 hE2 hB2 hBn hq
  replace hE3 := Lib.hid hE3
  replace hZ3 := Lib.hid hZ3
  replace hF := Lib.hid hF
  replace hB33 := Lib.hid hB33
  go_wp2_with fail
  have hEf := cell_of (heap_set (o := 0) hE3.out (errOf q)) (off := 0) rfl
  have hKf : Keep (fun k => k = w.heap.size + 1) w3 (w3.setCell ⟨w.heap.size + 1, 0, none⟩ (errOf q)) := Keep.set (fun k => k = w.heap.size + 1) _ _ _ rfl
  have hZf := hKf.heap (show ¬ w.heap.size = w.heap.size + 1 by omega) hZ3.out
  have hFf : FaultAt (w3.setCell ⟨w.heap.size + 1, 0, none⟩ (errOf q)) q f := hKf.heap (show ¬ q = w.heap.size + 1 by omega) hF.out
  have hBf := below_keep hB33.out hKf (fun i e => by omega) hB33.out.size
  have hif : (Tryd.prog.info? 36).map (·.size) = some Tryd.zeroCells36.size := by kernel_rfl
  have hL := run_loadVar_row (P := Tryd.prog) _ w.heap.size 36 36 _ (0, 0) _ hZf Tryd.underlying36 rfl hif
  have hL2 : (loadVar 38 ⟨w.heap.size + 1, 0, none⟩).run Tryd.prog (w3.setCell ⟨w.heap.size + 1, 0, none⟩ (errOf q)) = .ok (errOf q) (w3.setCell ⟨w.heap.size + 1, 0, none⟩ (errOf q)) := by simp [go_sem, hEf]
  refine leaves_cons (f := 36) (args := #[.pointer (some ⟨w.heap.size + 1, 0, none⟩)]) (by simp) (by simp [go_sem]) ?_
  refine (caught_panicking ⟨w.heap.size + 1, 0, none⟩ q .nilIface [] _ ce cf).mono ?_
  rintro e u' w'' ⟨rfl, rfl, rfl⟩
  exact ⟨_, results_cell2 rfl _ _ ⟨w.heap.size, 0, none⟩ ⟨w.heap.size + 1, 0, none⟩ (.agg Tryd.zeroCells36) (errOf q) rfl rfl hL hL2, q, rfl, hFf, hBf⟩

theorem cell_take {w : World} {b o k : Nat} {l : List UInt8} (h : Bs w (some ⟨b, o, none⟩) (l.take k)) (hl : k ≤ l.length) (i : Nat) (hi : i < k) (v : Value) (hv : B8 (l.getD i 0) = v) : w.cell? ⟨b, o + i, none⟩ = some v := by
  have h1 := h.at i (by rw [List.length_take]; omega)
  rw [getD_take _ hi, hv] at h1
  exact h1
theorem peek_cut (b o c : Nat) (kd : UInt8) (body s4 : List UInt8) (w : World) (N L k : Nat) (hk1 : 1 ≤ nb kd) (hk6 : nb kd ≤ 6) (hN : body.length = N) (hNm : N ≤ 1065189) (h4 : s4.length = 4) (hLd : 14 + N = L) (hk : k < L) (hk10 : 10 ≤ k) (hc : k ≤ c)
    (hb : Bs w (some ⟨b, o, none⟩) ((preL kd body ++ s4).take k)) :
    Calls Tryd.prog 37 #[.slice (some ⟨b, o, none⟩) k c] w fun e w' => e = .returned (.tuple #[.int .i64 (nb kd), .int .i64 (L : Int)]) ∧ ∃ m, w' = w.drewN m := by
  have e : (preL kd body ++ s4).take k = headL kd (four body.length) ((body ++ s4).take (k - 10)) := by
    rw [frame_split]
    obtain ⟨j, rfl⟩ : ∃ j, k = j + 10 := ⟨k - 10, by omega⟩
    simp only [headL, four, List.cons_append, List.nil_append, Nat.add_sub_cancel]
    simp only [List.take_succ_cons]
  rw [e] at hb
  have hn : numL (four body.length) = N := by rw [numL_four _ (by omega), hN]
  have hr : ((body ++ s4).take (k - 10)).length = k - 10 := by simp [hN, h4]; omega
  have h := peek_ok b o c kd (four body.length) ((body ++ s4).take (k - 10)) w rfl hk1 hk6 (by omega) (by omega) (by omega) hb
  rw [hn, hr, show 10 + (k - 10) = k from by omega] at h
  rw [show (10 : Int) + (N : Int) + 4 = (L : Int) from by omega] at h
  exact h
set_option maxHeartbeats 8000000 in
theorem decode_short_late (b o c : Nat) (kd : UInt8) (body s4 : List UInt8) (w : World) (N L Q : Nat) (hk1 : 1 ≤ nb kd) (hk6 : nb kd ≤ 6) (hN : body.length = N) (hNm : N ≤ 1065189) (h4 : s4.length = 4) (hLd : 14 + N = L) (hQd : 10 + N = Q) (hc : L ≤ c) (hlt : b < w.heap.size) (k : Nat) (hk : k < L) (hk10 : 10 ≤ k) (hb : Bs w (some ⟨b, o, none⟩) ((preL kd body ++ s4).take k)) :
    Calls Tryd.prog 11 #[.slice (some ⟨b, o, none⟩) k c] w (DecBad w ⟨kFrame, (k : Int), 3⟩) := by
  replace hb := Lib.hid hb
  go_enter_defers Tryd.func11, Tryd.ntmps11
  go_upto_region 2 with fail
  have hZ : ((w.alloc (.cells Tryd.zeroCells36 36)).alloc (.cells #[.nilIface] 38)).heap[w.heap.size]? = some (.cells Tryd.zeroCells36 36 (0, 0)) := by
    rw [heap_alloc?, if_neg (by simp)]; exact heap_alloc_new w _
  have hE : ((w.alloc (.cells Tryd.zeroCells36 36)).alloc (.cells #[.nilIface] 38)).heap[w.heap.size + 1]? = some (.cells #[.nilIface] 38 (0, 0)) := by
    rw [heap_alloc?, if_pos (by simp)]
  have hB : Below w.heap.size w ((w.alloc (.cells Tryd.zeroCells36 36)).alloc (.cells #[.nilIface] 38)) := later (boxed _ _) (boxed _ _)
  have hsz : ((w.alloc (.cells Tryd.zeroCells36 36)).alloc (.cells #[.nilIface] 38)).heap.size = w.heap.size + 2 := by simp
  generalize ((w.alloc (.cells Tryd.zeroCells36 36)).alloc (.cells #[.nilIface] 38)) = w1 at hZ hE hB hsz ⊢
  have hb1 := hb.out.on hB
  replace hZ := Lib.hid hZ
  replace hE := Lib.hid hE
  have hkL : ¬ ((L : Int) ≤ (k : Int)) := by omega
  go_wp2_with fail
  refine (peek_cut b o c kd body s4 w1 N L k hk1 hk6 hN hNm h4 hLd hk hk10 (by omega) hb1).mono ?_
  rintro e w2 ⟨rfl, md, hw2⟩
  have hB2 : Below w.heap.size w w2 := by rw [hw2]; exact below_drewN hB md
  have hs2 : w2.heap.size = w.heap.size + 2 := by rw [hw2]; exact hsz
  have hZ2 : w2.heap[w.heap.size]? = some (.cells Tryd.zeroCells36 36 (0, 0)) := by rw [hw2]; exact hZ.out
  have hE2 : w2.heap[w.heap.size + 1]? = some (.cells #[.nilIface] 38 (0, 0)) := by rw [hw2]; exact hE.out
  clear hw2 hZ hE hB hsz hb1 hb
  replace hZ2 := Lib.hid hZ2
  replace hE2 := Lib.hid hE2
  replace hB2 := Lib.hid hB2
  go_wp2_with fail
  rw [decide_eq_false (by omega)]
  refine (need_false kFrame (k : Int) 3 _).mono ?_
  rintro e w3 ⟨q, rfl, hq, hF, hBn⟩
  have hE3 := heap_on hBn hE2.out
  have hZ3 := heap_on hBn hZ2.out
  have hB33 := later' hB2.out hBn
  have ce : w3.cell? ⟨w.heap.size + 1, 0, none⟩ = some .nilIface := cell_of hE3 rfl
  have cf : w3.frozen? ⟨w.heap.size + 1, 0, none⟩ = false := free_of hE3
  have hq2 : w.heap.size + 2 ≤ q := by omega
  clear hZ2 hE2 hB2 hBn hq
  replace hE3 := Lib.hid hE3
  replace hZ3 := Lib.hid hZ3
  replace hF := Lib.hid hF
  replace hB33 := Lib.hid hB33
  go_wp2_with fail
  have hEf := cell_of (heap_set (o := 0) hE3.out (errOf q)) (off := 0) rfl
  have hKf : Keep (fun k => k = w.heap.size + 1) w3 (w3.setCell ⟨w.heap.size + 1, 0, none⟩ (errOf q)) := Keep.set (fun k => k = w.heap.size + 1) _ _ _ rfl
  have hZf := hKf.heap (show ¬ w.heap.size = w.heap.size + 1 by omega) hZ3.out
  have hFf : FaultAt (w3.setCell ⟨w.heap.size + 1, 0, none⟩ (errOf q)) q ⟨kFrame, (k : Int), 3⟩ := hKf.heap (show ¬ q = w.heap.size + 1 by omega) hF.out
  have hBf := below_keep hB33.out hKf (fun i e => by omega) hB33.out.size
  have hif : (Tryd.prog.info? 36).map (·.size) = some Tryd.zeroCells36.size := by kernel_rfl
  have hL := run_loadVar_row (P := Tryd.prog) _ w.heap.size 36 36 _ (0, 0) _ hZf Tryd.underlying36 rfl hif
  have hL2 : (loadVar 38 ⟨w.heap.size + 1, 0, none⟩).run Tryd.prog (w3.setCell ⟨w.heap.size + 1, 0, none⟩ (errOf q)) = .ok (errOf q) (w3.setCell ⟨w.heap.size + 1, 0, none⟩ (errOf q)) := by simp [go_sem, hEf]
  refine leaves_cons (f := 36) (args := #[.pointer (some ⟨w.heap.size + 1, 0, none⟩)]) (by simp) (by simp [go_sem]) ?_
  refine (caught_panicking ⟨w.heap.size + 1, 0, none⟩ q .nilIface [] _ ce cf).mono ?_
  rintro e u' w'' ⟨rfl, rfl, rfl⟩
  exact ⟨_, results_cell2 rfl _ _ ⟨w.heap.size, 0, none⟩ ⟨w.heap.size + 1, 0, none⟩ (.agg Tryd.zeroCells36) (errOf q) rfl rfl hL hL2, q, rfl, hFf, hBf⟩

theorem decode_short (b o c : Nat) (kd : UInt8) (body s4 : List UInt8) (w : World) (N L Q : Nat) (hk1 : 1 ≤ nb kd) (hk6 : nb kd ≤ 6) (hN : body.length = N) (hNm : N ≤ 1065189) (h4 : s4.length = 4) (hLd : 14 + N = L) (hQd : 10 + N = Q) (hc : L ≤ c) (hlt : b < w.heap.size) (k : Nat) (hk : k < L) (hb : Bs w (some ⟨b, o, none⟩) ((preL kd body ++ s4).take k)) :
    Calls Tryd.prog 11 #[.slice (some ⟨b, o, none⟩) k c] w (DecBad w ⟨kFrame, (k : Int), 3⟩) := by
  rcases Nat.lt_or_ge k 10 with h10 | h10
  · refine decode_peekbad _ k c _ w fun w1 hw1 => ?_
    have hb1 := hb.on hw1
    have hll : k ≤ (preL kd body ++ s4).length := by simp [preL_len, h4]; omega
    have x := fun i hi v hv => cell_take hb1 hll i hi v hv
    have hd : k = 0 ∨ k = 1 ∨ k = 2 ∨ k = 3 ∨ k = 4 ∨ k = 5 ∨ k = 6 ∨ k = 7 ∨ k = 8 ∨ k = 9 := by omega
    rcases hd with rfl | rfl | rfl | rfl | rfl | rfl | rfl | rfl | rfl | rfl
    · exact peek_s0 b o c kd w1 hk1 hk6 (by omega)
    · exact peek_s1 b o c kd w1 hk1 hk6 (by omega) (x 0 (by omega) _ rfl)
    · exact peek_s2 b o c kd w1 hk1 hk6 (by omega) (x 0 (by omega) _ rfl) (x 1 (by omega) _ rfl)
    · exact peek_s3 b o c kd w1 hk1 hk6 (by omega) (x 0 (by omega) _ rfl) (x 1 (by omega) _ rfl) (x 2 (by omega) _ rfl)
    · exact peek_s4 b o c kd w1 hk1 hk6 (by omega) (x 0 (by omega) _ rfl) (x 1 (by omega) _ rfl) (x 2 (by omega) _ rfl) (x 3 (by omega) _ rfl)
    · exact peek_s5 b o c kd w1 hk1 hk6 (by omega) (x 0 (by omega) _ rfl) (x 1 (by omega) _ rfl) (x 2 (by omega) _ rfl) (x 3 (by omega) _ rfl) (x 4 (by omega) _ rfl)
    · exact peek_s6 b o c kd w1 hk1 hk6 (by omega) (x 0 (by omega) _ rfl) (x 1 (by omega) _ rfl) (x 2 (by omega) _ rfl) (x 3 (by omega) _ rfl) (x 4 (by omega) _ rfl) (x 5 (by omega) _ rfl)
    · exact peek_s7 b o c kd w1 hk1 hk6 (by omega) (x 0 (by omega) _ rfl) (x 1 (by omega) _ rfl) (x 2 (by omega) _ rfl) (x 3 (by omega) _ rfl) (x 4 (by omega) _ rfl) (x 5 (by omega) _ rfl)
    · exact peek_s8 b o c kd w1 hk1 hk6 (by omega) (x 0 (by omega) _ rfl) (x 1 (by omega) _ rfl) (x 2 (by omega) _ rfl) (x 3 (by omega) _ rfl) (x 4 (by omega) _ rfl) (x 5 (by omega) _ rfl)
    · exact peek_s9 b o c kd w1 hk1 hk6 (by omega) (x 0 (by omega) _ rfl) (x 1 (by omega) _ rfl) (x 2 (by omega) _ rfl) (x 3 (by omega) _ rfl) (x 4 (by omega) _ rfl) (x 5 (by omega) _ rfl)
  · exact decode_short_late b o c kd body s4 w N L Q hk1 hk6 hN hNm h4 hLd hQd hc hlt k hk h10 hb
end Go.Proofs.YtmnmmabhmedioaaDoor
