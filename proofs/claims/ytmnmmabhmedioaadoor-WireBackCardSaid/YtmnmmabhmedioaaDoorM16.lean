/- Wire: a frame that is cut: Decode. (Printed by gen_dec.py short.) -/
import Derived.Test.YtmnmmabhmedioaaDoorM15
namespace Go.Proofs.YtmnmmabhmedioaaDoor
open Go.RowKit
set_option linter.unusedVariables false
set_option linter.unusedSimpArgs false
set_option maxRecDepth 100000

abbrev DecBad (w : World) (f : FD) (e : Ending) (w' : World) : Prop := ∃ q, e = .returned (.tuple #[.agg Tryd.zeroCells36, errOf q]) ∧ FaultAt w' q f ∧ Below w.heap.size w w'
set_option maxHeartbeats 8000000 in
theorem decode_peekbad (A : Option Addr) (n c : Nat) (f : FD) (w : World) (hp : ∀ w1 : World, Below w.heap.size w w1 → Calls Tryd.prog 37 #[.slice A n c] w1 fun e w' => ∃ q, e = Threw q ∧ w1.heap.size ≤ q ∧ FaultAt w' q f ∧ Below w1.heap.size w1 w') :
    Calls Tryd.prog 11 #[.slice A n c] w (DecBad w f) := by
  replace hp := Lib.hid hp
  go_enter_defers Tryd.func11, Tryd.ntmps11
  go_upto_region 2 with fail
  have hZ : ((w.alloc (.cells Tryd.zeroCells36 36)).alloc (.cells #[.nilIface] 38)).heap[w.heap.size]? = some (.cells Tryd.zeroCells36 36 (0, 0)) := by
    rw [heap_alloc?, if_neg (by simp)]; exact heap_alloc_new w _
  have hE : ((w.alloc (.cells Tryd.zeroCells36 36)).alloc (.cells #[.nilIface] 38)).heap[w.heap.size + 1]? = some (.cells #[.nilIface] 38 (0, 0)) := by
    rw [heap_alloc?, if_pos (by simp)]
  have hB : Below w.heap.size w ((w.alloc (.cells Tryd.zeroCells36 36)).alloc (.cells #[.nilIface] 38)) := later (boxed _ _) (boxed _ _)
  have hsz : ((w.alloc (.cells Tryd.zeroCells36 36)).alloc (.cells #[.nilIface] 38)).heap.size = w.heap.size + 2 := by simp
  generalize ((w.alloc (.cells Tryd.zeroCells36 36)).alloc (.cells #[.nilIface] 38)) = w1 at hZ hE hB hsz ⊢
  replace hZ := Lib.hid hZ
  replace hE := Lib.hid hE
  go_wp2_with fail
  refine (hp.out w1 hB).mono ?_
  rintro e w3 ⟨q, rfl, hq, hF, hBn⟩
  have hs2 := hsz
  have hZ2 := hZ
  have hE2 := hE
  have hB2 := Lib.hid hB
  clear hZ hE hB hsz hp
  have hE3 := heap_on hBn hE2.out
  have hZ3 := heap_on hBn hZ2.out
  have hB33 := later' hB2.out hBn
  have ce : w3.cell? ⟨w.heap.size + 1, 0, none⟩ = some .nilIface := cell_of hE3 rfl
  have cf : w3.frozen? ⟨w.heap.size + 1, 0, none⟩ = false := free_of hE3
  have hq2 : w.heap.size + 2 ≤ q := by omega
  clear hZ2 hE2 hB2 hBn hq
  replace hE3 := Lib.hid hE3
  replace hZ3 := Lib.hid hZ3
  replace hF := Lib.hid hF
  replace hB33 := Lib.hid hB33
  go_wp2_with fail
  have hEf := cell_of (heap_set (o := 0) hE3.out (errOf q)) (off := 0) rfl
  have hKf : Keep (fun k => k = w.heap.size + 1) w3 (w3.setCell ⟨w.heap.size + 1, 0, none⟩ (errOf q)) := Keep.set (fun k => k = w.heap.size + 1) _ _ _ rfl
  have hZf := hKf.heap (show ¬ w.heap.size = w.heap.size + 1 by omega) hZ3.out
  have hFf : FaultAt (w3.setCell ⟨w.heap.size + 1, 0, none⟩ (errOf q)) q f := hKf.heap (show ¬ q = w.heap.size + 1 by omega) hF.out
  have hBf := below_keep hB33.out hKf (fun i e => by omega) hB33.out.size
  have hif : (Tryd.prog.info? 36).map (·.size) = some Tryd.zeroCells36.size := by kernel_rfl
  have hL := run_loadVar_row (P := Tryd.prog) _ w.heap.size 36 36 _ (0, 0) _ hZf Tryd.underlying36 rfl hif
  have hL2 : (loadVar 38 ⟨w.heap.size + 1, 0, none⟩).run Tryd.prog (w3.setCell ⟨w.heap.size + 1, 0, none⟩ (errOf q)) = .ok (errOf q) (w3.setCell ⟨w.heap.size + 1, 0, none⟩ (errOf q)) := by simp [go_sem, hEf]
  refine leaves_cons (f := 36) (args := #[.pointer (some ⟨w.heap.size + 1, 0, none⟩)]) (by simp) (by simp [go_sem]) ?_
  refine (caught_panicking ⟨w.heap.size + 1, 0, none⟩ q .nilIface [] _ ce cf).mono ?_
  rintro e u' w'' ⟨rfl, rfl, rfl⟩
  exact ⟨_, results_cell2 rfl _ _ ⟨w.heap.size, 0, none⟩ ⟨w.heap.size + 1, 0, none⟩ (.agg Tryd.zeroCells36) (errOf q) rfl rfl hL hL2, q, rfl, hFf, hBf⟩

theorem cell_take {w : World} {b o k : Nat} {l : List UInt8} (h : Bs w (some ⟨b, o, none⟩) (l.take k)) (hl : k ≤ l.length) (i : Nat) (hi : i < k) (v : Value) (hv : B8 (l.getD i 0) = v) : w.cell? ⟨b, o + i, none⟩ = some v := by
  have h1 := h.at i (by rw [List.length_take]; omega)
  rw [getD_take _ hi, hv] at h1
  exact h1
theorem peek_cut (b o c : Nat) (kd : UInt8) (body s4 : List UInt8) (w : World) (N L k : Nat) (hk1 : 1 ≤ nb kd) (hk6 : nb kd ≤ 6) (hN : body.length = N) (hNm : N ≤ 1065189) (h4 : s4.length = 4) (hLd : 14 + N = L) (hk : k < L) (hk10 : 10 ≤ k) (hc : k ≤ c)
    (hb : Bs w (some ⟨b, o, none⟩) ((preL kd body ++ s4).take k)) :
    Calls Tryd.prog 37 #[.slice (some ⟨b, o, none⟩) k c] w fun e w' => e = .returned (.tuple #[.int .i64 (nb kd), .int .i64 (L : Int)]) ∧ ∃ m, w' = w.drewN m := by
  have e : (preL kd body ++ s4).take k = headL kd (four body.length) ((body ++ s4).take (k - 10)) := by
    rw [frame_split]
    obtain ⟨j, rfl⟩ : ∃ j, k = j + 10 := ⟨k - 10, by omega⟩
    simp only [headL, four, List.cons_append, List.nil_append, Nat.add_sub_cancel]
    simp only [List.take_succ_cons]
  rw [e] at hb
  have hn : numL (four body.length) = N := by rw [numL_four _ (by omega), hN]
  have hr : ((body ++ s4).take (k - 10)).length = k - 10 := by simp [hN, h4]; omega
  have h := peek_ok b o c kd (four body.length) ((body ++ s4).take (k - 10)) w rfl hk1 hk6 (by omega) (by omega) (by omega) hb
  rw [hn, hr, show 10 + (k - 10) = k from by omega] at h
  rw [show (10 : Int) + (N : Int) + 4 = (L : Int) from by omega] at h
  exact h
set_option maxHeartbeats 8000000 in
theorem decode_short_late (b o c : Nat) (kd : UInt8) (body s4 : List UInt8) (w : World) (N L Q : Nat) (hk1 : 1 ≤ nb kd) (hk6 : nb kd ≤ 6) (hN : body.length = N) (hNm : N ≤ 1065189) (h4 : s4.length = 4) (hLd : 14 + N = L) (hQd : 10 + N = Q) (hc : L ≤ c) (hlt : b < w.heap.size) (k : Nat) (hk : k < L) (hk10 : 10 ≤ k) (hb : Bs w (some ⟨b, o, none⟩) ((preL kd body ++ s4).take k)) :
    Calls Tryd.prog 11 #[.slice (some ⟨b, o, none⟩) k c] w (DecBad w ⟨kFrame, (k : Int), 3⟩) := by
  replace hb := Lib.hid hb
  go_enter_defers Tryd.func11, Tryd.ntmps11
  go_upto_region 2 with fail
  have hZ : ((w.alloc (.cells Tryd.zeroCells36 36)).alloc (.cells #[.nilIface] 38)).heap[w.heap.size]? = some (.cells Tryd.zeroCells36 36 (0, 0)) := by
    rw [heap_alloc?, if_neg (by simp)]; exact heap_alloc_new w _
  have hE : ((w.alloc (.cells Tryd.zeroCells36 36)).alloc (.cells #[.nilIface] 38)).heap[w.heap.size + 1]? = some (.cells #[.nilIface] 38 (0, 0)) := by
    rw [heap_alloc?, if_pos (by simp)]
  have hB : Below w.heap.size w ((w.alloc (.cells Tryd.zeroCells36 36)).alloc (.cells #[.nilIface] 38)) := later (boxed _ _) (boxed _ _)
  have hsz : ((w.alloc (.cells Tryd.zeroCells36 36)).alloc (.cells #[.nilIface] 38)).heap.size = w.heap.size + 2 := by simp
  generalize ((w.alloc (.cells Tryd.zeroCells36 36)).alloc (.cells #[.nilIface] 38)) = w1 at hZ hE hB hsz ⊢
  have hb1 := hb.out.on hB
  replace hZ := Lib.hid hZ
  replace hE := Lib.hid hE
  have hkL : ¬ ((L : Int) ≤ (k : Int)) := by omega
  go_wp2_with fail
  refine (peek_cut b o c kd body s4 w1 N L k hk1 hk6 hN hNm h4 hLd hk hk10 (by omega) hb1).mono ?_
  rintro e w2 ⟨rfl, md, hw2⟩
  have hB2 : Below w.heap.size w w2 := by rw [hw2]; exact below_drewN hB md
  have hs2 : w2.heap.size = w.heap.size + 2 := by rw [hw2]; exact hsz
  have hZ2 : w2.heap[w.heap.size]? = some (.cells Tryd.zeroCells36 36 (0, 0)) := by rw [hw2]; exact hZ.out
  have hE2 : w2.heap[w.heap.size + 1]? = some (.cells #[.nilIface] 38 (0, 0)) := by rw [hw2]; exact hE.out
  clear hw2 hZ hE hB hsz hb1 hb
  replace hZ2 := Lib.hid hZ2
  replace hE2 := Lib.hid hE2
  replace hB2 := Lib.hid hB2
  go_wp2_with fail
  rw [decide_eq_false (by omega)]
  refine (need_false kFrame (k : Int) 3 _).mono ?_
  rintro e w3 ⟨q, rfl, hq, hF, hBn⟩
  have hE3 := heap_on hBn hE2.out
  have hZ3 := heap_on hBn hZ2.out
  have hB33 := later' hB2.out hBn
  have ce : w3.cell? ⟨w.heap.size + 1, 0, none⟩ = some .nilIface := cell_of hE3 rfl
  have cf : w3.frozen? ⟨w.heap.size + 1, 0, none⟩ = false := free_of hE3
  have hq2 : w.heap.size + 2 ≤ q := by omega
  clear hZ2 hE2 hB2 hBn hq
  replace hE3 := Lib.hid hE3
  replace hZ3 := Lib.hid hZ3
  replace hF := Lib.hid hF
  replace hB33 := Lib.hid hB33
  go_wp2_with fail
  have hEf := cell_of (heap_set (o := 0) hE3.out (errOf q)) (off := 0) rfl
  have hKf : Keep (fun k => k = w.heap.size + 1) w3 (w3.setCell ⟨w.heap.size + 1, 0, none⟩ (errOf q)) := Keep.set (fun k => k = w.heap.size + 1) _ _ _ rfl
  have hZf := hKf.heap (show ¬ w.heap.size = w.heap.size + 1 by omega) hZ3.out
  have hFf : FaultAt (w3.setCell ⟨w.heap.size + 1, 0, none⟩ (errOf q)) q ⟨kFrame, (k : Int), 3⟩ := hKf.heap (show ¬ q = w.heap.size + 1 by omega) hF.out
  have hBf := below_keep hB33.out hKf (fun i e => by omega) hB33.out.size
  have hif : (Tryd.prog.info? 36).map (·.size) = some Tryd.zeroCells36.size := by kernel_rfl
  have hL := run_loadVar_row (P := Tryd.prog) _ w.heap.size 36 36 _ (0, 0) _ hZf Tryd.underlying36 rfl hif
  have hL2 : (loadVar 38 ⟨w.heap.size + 1, 0, none⟩).run Tryd.prog (w3.setCell ⟨w.heap.size + 1, 0, none⟩ (errOf q)) = .ok (errOf q) (w3.setCell ⟨w.heap.size + 1, 0, none⟩ (errOf q)) := by simp [go_sem, hEf]
  refine leaves_cons (f := 36) (args := #[.pointer (some ⟨w.heap.size + 1, 0, none⟩)]) (by simp) (by simp [go_sem]) ?_
  refine (caught_panicking ⟨w.heap.size + 1, 0, none⟩ q .nilIface [] _ ce cf).mono ?_
  rintro e u' w'' ⟨rfl, rfl, rfl⟩
  exact ⟨_, results_cell2 rfl _ _ ⟨w.heap.size, 0, none⟩ ⟨w.heap.size + 1, 0, none⟩ (.agg Tryd.zeroCells36) (errOf q) rfl rfl hL hL2, q, rfl, hFf, hBf⟩

theorem decode_short (b o c : Nat) (kd : UInt8) (body s4 : List UInt8) (w : World) (N L Q : Nat) (hk1 : 1 ≤ nb kd) (hk6 : nb kd ≤ 6) (hN : body.length = N) (hNm : N ≤ 1065189) (h4 : s4.length = 4) (hLd : 14 + N = L) (hQd : 10 + N = Q) (hc : L ≤ c) (hlt : b < w.heap.size) (k : Nat) (hk : k < L) (hb : Bs w (some ⟨b, o, none⟩) ((preL kd body ++ s4).take k)) :
    Calls Tryd.prog 11 #[.slice (some ⟨b, o, none⟩) k c] w (DecBad w ⟨kFrame, (k : Int), 3⟩) := by
  rcases Nat.lt_or_ge k 10 with h10 | h10
  · refine decode_peekbad _ k c _ w fun w1 hw1 => ?_
    have hb1 := hb.on hw1
    have hll : k ≤ (preL kd body ++ s4).length := by simp [preL_len, h4]; omega
    have x := fun i hi v hv => cell_take hb1 hll i hi v hv
    have hd : k = 0 ∨ k = 1 ∨ k = 2 ∨ k = 3 ∨ k = 4 ∨ k = 5 ∨ k = 6 ∨ k = 7 ∨ k = 8 ∨ k = 9 := by omega
    rcases hd with rfl | rfl | rfl | rfl | rfl | rfl | rfl | rfl | rfl | rfl
    · exact peek_s0 b o c kd w1 hk1 hk6 (by omega)
    · exact peek_s1 b o c kd w1 hk1 hk6 (by omega) (x 0 (by omega) _ rfl)
    · exact peek_s2 b o c kd w1 hk1 hk6 (by omega) (x 0 (by omega) _ rfl) (x 1 (by omega) _ rfl)
    · exact peek_s3 b o c kd w1 hk1 hk6 (by omega) (x 0 (by omega) _ rfl) (x 1 (by omega) _ rfl) (x 2 (by omega) _ rfl)
    · exact peek_s4 b o c kd w1 hk1 hk6 (by omega) (x 0 (by omega) _ rfl) (x 1 (by omega) _ rfl) (x 2 (by omega) _ rfl) (x 3 (by omega) _ rfl)
    · exact peek_s5 b o c kd w1 hk1 hk6 (by omega) (x 0 (by omega) _ rfl) (x 1 (by omega) _ rfl) (x 2 (by omega) _ rfl) (x 3 (by omega) _ rfl) (x 4 (by omega) _ rfl)
    · exact peek_s6 b o c kd w1 hk1 hk6 (by omega) (x 0 (by omega) _ rfl) (x 1 (by omega) _ rfl) (x 2 (by omega) _ rfl) (x 3 (by omega) _ rfl) (x 4 (by omega) _ rfl) (x 5 (by omega) _ rfl)
    · exact peek_s7 b o c kd w1 hk1 hk6 (by omega) (x 0 (by omega) _ rfl) (x 1 (by omega) _ rfl) (x 2 (by omega) _ rfl) (x 3 (by omega) _ rfl) (x 4 (by omega) _ rfl) (x 5 (by omega) _ rfl)
    · exact peek_s8 b o c kd w1 hk1 hk6 (by omega) (x 0 (by omega) _ rfl) (x 1 (by omega) _ rfl) (x 2 (by omega) _ rfl) (x 3 (by omega) _ rfl) (x 4 (by omega) _ rfl) (x 5 (by omega) _ rfl)
    · exact peek_s9 b o c kd w1 hk1 hk6 (by omega) (x 0 (by omega) _ rfl) (x 1 (by omega) _ rfl) (x 2 (by omega) _ rfl) (x 3 (by omega) _ rfl) (x 4 (by omega) _ rfl) (x 5 (by omega) _ rfl)
  · exact decode_short_late b o c kd body s4 w N L Q hk1 hk6 hN hNm h4 hLd hQd hc hlt k hk h10 hb
end Go.Proofs.YtmnmmabhmedioaaDoor
/- Wire: the reader's block, its place and the message read so far. -/
namespace Go.Proofs.YtmnmmabhmedioaaDoor
open Go.RowKit
set_option linter.unusedVariables false
set_option linter.unusedSimpArgs false
set_option maxRecDepth 100000

def rdA (b o Q c at_ : Nat) (CS : Array Value) : Array Value := #[.slice (some ⟨b, o, none⟩) Q c, .int .i64 (at_ : Int)] ++ CS
theorem rdA_0 (b o Q c at_ : Nat) (CS : Array Value) : (rdA b o Q c at_ CS)[0]? = some (.slice (some ⟨b, o, none⟩) Q c) := by unfold rdA; rw [Array.getElem?_append_left (by simp)]; rfl
theorem rdA_1 (b o Q c at_ : Nat) (CS : Array Value) : (rdA b o Q c at_ CS)[1]? = some (.int .i64 (at_ : Int)) := by unfold rdA; rw [Array.getElem?_append_left (by simp)]; rfl
theorem rdA_2 (b o Q c at_ : Nat) (CS : Array Value) (j : Nat) : (rdA b o Q c at_ CS)[2 + j]? = CS[j]? := by
  unfold rdA
  rw [Array.getElem?_append_right (by simp)]
  congr 1
  simp
theorem rdA_size (b o Q c at_ : Nat) (CS : Array Value) : (rdA b o Q c at_ CS).size = 2 + CS.size := by unfold rdA; rw [Array.size_append]; rfl
theorem rdA_at (b o Q c at_ n : Nat) (CS : Array Value) : (rdA b o Q c at_ CS).setIfInBounds 1 (.int .i64 (n : Int)) = rdA b o Q c n CS := by
  apply Array.ext_getElem?
  intro i
  match i with
  | 0 => rw [Array.getElem?_setIfInBounds_ne (by decide), rdA_0, rdA_0]
  | 1 => rw [Array.getElem?_setIfInBounds_self_of_lt (by rw [rdA_size]; omega), rdA_1]
  | i + 2 => rw [Array.getElem?_setIfInBounds_ne (by omega), Nat.add_comm i 2, rdA_2, rdA_2]
theorem rdA_range (b o Q c at_ : Nat) (CS : Array Value) (j : Nat) (vs : List Value) : setRange (rdA b o Q c at_ CS) (2 + j) vs = rdA b o Q c at_ (setRange CS j vs) := by
  induction vs generalizing CS j with
  | nil => rfl
  | cons v r ih =>
    rw [setRange, setRange, ← ih (CS.setIfInBounds j v) (j + 1), Nat.add_assoc]
    congr 1
    apply Array.ext_getElem?
    intro i
    match i with
    | 0 => rw [Array.getElem?_setIfInBounds_ne (by omega), rdA_0, rdA_0]
    | 1 => rw [Array.getElem?_setIfInBounds_ne (by omega), rdA_1, rdA_1]
    | i + 2 =>
      rw [Nat.add_comm i 2, rdA_2]
      by_cases e : i = j
      · subst e
        by_cases h : i < CS.size
        · rw [Array.getElem?_setIfInBounds_self_of_lt (by rw [rdA_size]; omega), Array.getElem?_setIfInBounds_self_of_lt h]
        · rw [Array.getElem?_eq_none (by simp [rdA_size]; omega), Array.getElem?_eq_none (by simp; omega)]
      · rw [Array.getElem?_setIfInBounds_ne (by omega), Array.getElem?_setIfInBounds_ne (by omega), rdA_2]

/-- The reader: its block R, the bytes F that it reads, the message's cells CS. -/
structure RdM (w : World) (R b o Q c at_ : Nat) (F : List UInt8) (CS : Array Value) : Prop where
  hR : w.heap[R]? = some (.cells (rdA b o Q c at_ CS) 107 (0, 0))
  hb : Bs w (some ⟨b, o, none⟩) F
  hF : F.length = Q
  hQ : Q < c
  hc : Q ≤ 1099511627776
  ne : b ≠ R
  hat : at_ ≤ Q
theorem RdM.keep {D : Nat → Prop} {w w' : World} {R b o Q c at_ : Nat} {F : List UInt8} {CS : Array Value} (h : RdM w R b o Q c at_ F CS) (k : Keep D w w') (hR : ¬ D R) (hb : ¬ D b) : RdM w' R b o Q c at_ F CS :=
  ⟨k.heap hR h.hR, h.hb.keep k (fun a ha => by cases ha; exact hb), h.hF, h.hQ, h.hc, h.ne, h.hat⟩
theorem RdM.on {w w' : World} {R b o Q c at_ : Nat} {F : List UInt8} {CS : Array Value} (h : RdM w R b o Q c at_ F CS) (k : Below w.heap.size w w') : RdM w' R b o Q c at_ F CS := h.keep (Keep.of_below (D := fun _ => False) k) id id
theorem RdM.drewN {w : World} {R b o Q c at_ : Nat} {F : List UInt8} {CS : Array Value} (h : RdM w R b o Q c at_ F CS) (n : Nat) : RdM (w.drewN n) R b o Q c at_ F CS := h.keep (Keep.drewN (D := fun _ => False) n) id id
theorem RdM.c0 {w : World} {R b o Q c at_ : Nat} {F : List UInt8} {CS : Array Value} (h : RdM w R b o Q c at_ F CS) : w.cell? ⟨R, 0, none⟩ = some (.slice (some ⟨b, o, none⟩) Q c) := cell_of h.hR (rdA_0 _ _ _ _ _ _)
theorem RdM.c1 {w : World} {R b o Q c at_ : Nat} {F : List UInt8} {CS : Array Value} (h : RdM w R b o Q c at_ F CS) : w.cell? ⟨R, 1, none⟩ = some (.int .i64 (at_ : Int)) := cell_of h.hR (rdA_1 _ _ _ _ _ _)
theorem RdM.c2 {w : World} {R b o Q c at_ : Nat} {F : List UInt8} {CS : Array Value} (h : RdM w R b o Q c at_ F CS) {j : Nat} {v : Value} (hv : CS[j]? = some v) (J : Nat) (hJ : 2 + j = J) : w.cell? ⟨R, J, none⟩ = some v := by subst hJ; exact cell_of h.hR (by rw [rdA_2]; exact hv)
theorem RdM.free {w : World} {R b o Q c at_ : Nat} {F : List UInt8} {CS : Array Value} (h : RdM w R b o Q c at_ F CS) (J : Nat) : w.frozen? ⟨R, J, none⟩ = false := free_of h.hR
theorem RdM.seg {w : World} {R b o Q c at_ : Nat} {F : List UInt8} {CS : Array Value} (h : RdM w R b o Q c at_ F CS) (i n : Nat) : Bs w (some ⟨b, o + i, none⟩) (segL F i n) := (h.hb.drop i).take n
theorem RdM.there {w : World} {R b o Q c at_ : Nat} {F : List UInt8} {CS : Array Value} (h : RdM w R b o Q c at_ F CS) (J n : Nat) (hn : J + n ≤ 2 + CS.size) : w.there R J n := there_of h.hR J n (by rw [rdA_size]; omega)
theorem RdM.setN {w : World} {R b o Q c at_ : Nat} {F : List UInt8} {CS : Array Value} (h : RdM w R b o Q c at_ F CS) (j : Nat) (vs : List Value) (J : Nat) (hJ : 2 + j = J) : RdM (w.setCells R J vs) R b o Q c at_ F (setRange CS j vs) := by
  subst hJ
  refine ⟨?_, h.hb.keep (setCells_keep w R (2 + j) vs) (fun a ha => by cases ha; exact h.ne), h.hF, h.hQ, h.hc, h.ne, h.hat⟩
  rw [setCells_heap w R (2 + j) vs h.hR, rdA_range]
theorem RdM.set1 {w : World} {R b o Q c at_ : Nat} {F : List UInt8} {CS : Array Value} (h : RdM w R b o Q c at_ F CS) (j : Nat) (v : Value) (J : Nat) (hJ : 2 + j = J) : RdM (w.setCell ⟨R, J, none⟩ v) R b o Q c at_ F (setRange CS j [v]) := h.setN j [v] J hJ

/-- What a call of the reader's leaves. -/
theorem take_rd {R b o Q c at_ : Nat} {F : List UInt8} {CS : Array Value} {w : World} (h : RdM w R b o Q c at_ F CS) (n : Nat) (field from_ : Value) (hn : at_ + n ≤ Q) :
    Calls Tryd.prog 40 #[.pointer (some ⟨R, 0, none⟩), field, from_, .int .i64 (n : Int)] w fun e w' =>
      e = .returned (.slice (some ⟨b, o + at_, none⟩) n (c - at_)) ∧ RdM w' R b o Q c (at_ + n) F CS ∧ Keep (fun k => k = R) w w' :=
  (take_ok R b o Q c at_ n _ w field from_ ⟨h.hR, rdA_0 _ _ _ _ _ _, rdA_1 _ _ _ _ _ _⟩ hn h.hQ h.hc).mono fun e w' ⟨h1, h2, h3⟩ =>
    ⟨h1, ⟨by rw [h2, rdA_at], h.hb.keep h3 (fun a ha => by cases ha; exact h.ne), h.hF, h.hQ, h.hc, h.ne, hn⟩, h3⟩
/-- A call that ends with a fault. -/
abbrev ThrewK (w : World) (R : Nat) (f : FD) (e : Ending) (w' : World) : Prop := ∃ q, e = Threw q ∧ w.heap.size ≤ q ∧ FaultAt w' q f ∧ Keep (fun k => k = R) w w'
set_option maxHeartbeats 8000000 in
theorem take_rd_short {R b o Q c at_ : Nat} {F : List UInt8} {CS : Array Value} {w : World} (h : RdM w R b o Q c at_ F CS) (n : Nat) (field : List UInt8) (from_ : Int) (hn : Q < at_ + n) (hn2 : n ≤ 1099511627776) :
    Calls Tryd.prog 40 #[.pointer (some ⟨R, 0, none⟩), .string ⟨field.toArray⟩, .int .i64 from_, .int .i64 (n : Int)] w (ThrewK w R ⟨field, from_, 3⟩) := by
  have c0 := h.c0
  have c1 := h.c1
  have hc := h.hc
  have hat := h.hat
  have hw1 : wrap64 ((Q : Int) - (at_ : Int)) = (Q : Int) - (at_ : Int) := IntWalk.wrap64_in _ ⟨by omega, by omega⟩
  have hle : decide ((n : Int) ≤ (Q : Int) - (at_ : Int)) = false := decide_eq_false (by omega)
  replace h := Lib.hid h
  go_enter Tryd.func40, Tryd.ntmps40
  go_wp2_with fail
  go_still_tail 14, (by kernel_rfl)
  change wpList _ _ _ _ _ w.drew
  have hw2 : Below w.heap.size w w.drew := (Below.refl _ _).drew
  have hs2 : w.drew.heap.size = w.heap.size := rfl
  clear c0 c1
  generalize w.drew = w2 at hw2 hs2 ⊢
  go_wp2_with fail
  rw [hle]
  refine (need_false field from_ 3 _).mono ?_
  rintro e w1 ⟨q, rfl, hq, hF, hB1⟩
  have hB := later hw2 hB1
  rw [hs2] at hq
  have hK := Keep.of_below (D := fun k => k = R) hB
  replace hK := Lib.hid hK
  replace hF := Lib.hid hF
  clear hB hB1 hw2
  go_wp2_with fail
  exact ⟨rfl, q, rfl, hq, hF.out, hK.out⟩
end Go.Proofs.YtmnmmabhmedioaaDoor
/- Wire: the reader reads a commitment. -/
namespace Go.Proofs.YtmnmmabhmedioaaDoor
open Go.RowKit
set_option linter.unusedVariables false
set_option linter.unusedSimpArgs false
set_option maxRecDepth 100000

theorem pairOf_ok {l : List UInt8} (h : l.length = 65) : PairOk (pairOf l) := ⟨segL_len (by omega), segL_len (by omega)⟩
theorem arrAtE (b o c : Nat) (w : World) : (Instr.arrayAt 27 (.slice (some ⟨b, o, none⟩) 32 c)).run Tryd.prog w = .ok (.pointer (some ⟨b, o, none⟩)) w := by
  simp [Instr.arrayAt, run_underlying Tryd.underlying27]
theorem row_bs {w : World} {b o n : Nat} {l : List UInt8} (h : Bs w (some ⟨b, o, none⟩) l) (hl : l.length = n) : RowAt w b o (arrB l) := fun j v hv => by
  have hj : j < l.length := by
    rcases Nat.lt_or_ge j l.length with h' | h'
    · exact h'
    · rw [Array.getElem?_eq_none (by simpa [arrB] using h')] at hv; cases hv
  rw [h.at j hj]
  unfold arrB at hv
  rw [List.getElem?_toArray, List.getElem?_map, List.getElem?_eq_getElem hj] at hv
  rw [List.getD_eq_getElem?_getD, List.getElem?_eq_getElem hj]
  exact hv
theorem RdM.cell {w : World} {R b o Q c at_ : Nat} {F : List UInt8} {CS : Array Value} (h : RdM w R b o Q c at_ F CS) {j : Nat} (hj : j < Q) (J : Nat) (hJ : o + j = J) : w.cell? ⟨b, J, none⟩ = some (.int .u8 (nb (F.getD j 0))) := by
  subst hJ
  exact h.hb.at j (by rw [h.hF]; exact hj)
theorem segL_seg (F : List UInt8) (a n i k : Nat) (h : i + k ≤ n) : segL (segL F a n) i k = segL F (a + i) k := by
  unfold segL
  rw [List.drop_take, List.drop_drop, List.take_take, Nat.min_eq_left (by omega)]
theorem segL_getD (F : List UInt8) (a n i : Nat) (h : i < n) : (segL F a n).getD i 0 = F.getD (a + i) 0 := by
  unfold segL
  rw [getD_take _ h, getD_drop]

set_option maxHeartbeats 8000000 in
theorem pair_short {R b o Q c at_ : Nat} {F : List UInt8} {CS : Array Value} {w : World} (h : RdM w R b o Q c at_ F CS) (hlt : R < w.heap.size) (field : List UInt8) (hn : Q < at_ + 65) :
    Calls Tryd.prog 41 #[.pointer (some ⟨R, 0, none⟩), .string ⟨field.toArray⟩] w (ThrewK w R ⟨field, at_, 3⟩) := by
  have hB := boxed w (.cells Tryd.zeroCells29 29)
  have h1 := h.on hB
  replace h := Lib.hid h
  go_enter Tryd.func41, Tryd.ntmps41
  go_upto_region 1 with fail
  generalize w.alloc (.cells Tryd.zeroCells29 29) = w1 at hB h1 ⊢
  have c1 := h1.c1
  replace h1 := Lib.hid h1
  replace hB := Lib.hid hB
  go_wp2_with fail
  refine (take_rd_short h1.out 65 field (at_ : Int) hn (by omega)).mono ?_
  rintro e w2 ⟨q, rfl, hq, hF, hK⟩
  have hK2 := Lib.hid ((Keep.of_below (D := fun k => k = R) hB.out).trans hK)
  have hq2 : w.heap.size ≤ q := Nat.le_trans hB.out.size hq
  replace hF := Lib.hid hF
  clear hB h1 c1 hK hq
  go_wp2_with fail
  exact ⟨rfl, q, rfl, hq2, hF.out, hK2.out⟩

set_option maxHeartbeats 8000000 in
theorem pair_zero {R b o Q c at_ : Nat} {F : List UInt8} {CS : Array Value} {w : World} (h : RdM w R b o Q c at_ F CS) (hlt : R < w.heap.size) (field : List UInt8) (hn : at_ + 65 ≤ Q) (hz : F.getD at_ 0 = 0) :
    Calls Tryd.prog 41 #[.pointer (some ⟨R, 0, none⟩), .string ⟨field.toArray⟩] w (ThrewK w R ⟨field, at_, 4⟩) := by
  have hB := boxed w (.cells Tryd.zeroCells29 29)
  have h1 := h.on hB
  replace h := Lib.hid h
  go_enter Tryd.func41, Tryd.ntmps41
  go_upto_region 1 with fail
  generalize w.alloc (.cells Tryd.zeroCells29 29) = w1 at hB h1 ⊢
  have c1 := h1.c1
  replace h1 := Lib.hid h1
  replace hB := Lib.hid hB
  go_wp2_with fail
  refine (take_rd h1.out 65 _ _ hn).mono ?_
  rintro e w2 ⟨rfl, h2, hK⟩
  have x0 : w2.cell? ⟨b, o + at_, none⟩ = some (.int .u8 0) := by
    have hx := h2.cell (j := at_) (by omega) (o + at_) rfl
    rw [hz] at hx
    exact hx
  have hK2 := Lib.hid ((Keep.of_below (D := fun k => k = R) hB.out).trans hK)
  clear hB h1 c1 hK h2
  go_wp2_with fail
  refine (need_false field (at_ : Int) 4 _).mono ?_
  rintro e w3 ⟨q, rfl, hq, hF, hB3⟩
  have hK3 := Lib.hid (hK2.out.trans (Keep.of_below (D := fun k => k = R) hB3))
  have hq2 : w.heap.size ≤ q := Nat.le_trans hK2.out.size hq
  replace hF := Lib.hid hF
  clear hK2 hB3 hq x0
  go_wp2_with fail
  exact ⟨rfl, q, rfl, hq2, hF.out, hK3.out⟩

theorem pairA_of (l : List UInt8) : pairA (pairOf l) = #[.int .i64 (nb (l.getD 0 0))] ++ arrB (segL l 1 32) ++ arrB (segL l 33 32) := rfl
theorem put_foldN {A : Array Value} {n : Nat} (hn : A.size = n) (o : Nat) (cs : Array Value) : Array.foldl (fun cs (x : Value × Nat) => cs.setIfInBounds (o + x.snd) x.fst) cs A.zipIdx 0 n = setRange cs o A.toList := by
  subst hn
  exact put_foldA o A cs
theorem pairZ_size : Tryd.zeroCells29.size = 65 := by kernel_rfl
theorem pairZ_build (z : Int) (A1 A2 : Array Value) (z1 : A1.size = 32) (z2 : A2.size = 32) : setRange (setRange (Tryd.zeroCells29.setIfInBounds 0 (.int .i64 z)) 1 A1.toList) 33 A2.toList = #[.int .i64 z] ++ A1 ++ A2 := by
  have l1 : A1.toList.length = 32 := by simpa using z1
  have l2 : A2.toList.length = 32 := by simpa using z2
  have hz := pairZ_size
  apply Array.ext_getElem?
  intro i
  by_cases h0 : i = 0
  · subst h0
    rw [setRange_out _ _ _ _ (by omega), setRange_out _ _ _ _ (by omega), Array.getElem?_setIfInBounds_self_of_lt (by omega), Array.append_assoc, Array.getElem?_append_left (by simp)]
    try rfl
  by_cases h1 : i < 33
  · obtain ⟨j, rfl⟩ : ∃ j, i = 1 + j := ⟨i - 1, by omega⟩
    rw [setRange_out _ _ _ _ (by omega), setRange_in _ _ _ _ (by omega) (by simp; omega), Array.getElem?_append_left (by simp; omega), Array.getElem?_append_right (by simp)]
    simp
  by_cases h2 : i < 65
  · obtain ⟨j, rfl⟩ : ∃ j, i = 33 + j := ⟨i - 33, by omega⟩
    rw [setRange_in _ _ _ _ (by omega) (by rw [setRange_size]; simp; omega), Array.getElem?_append_right (by simp; omega)]
    simp [z1]
    try (congr 1; omega)
  · rw [Array.getElem?_eq_none (by simp only [setRange_size, Array.size_setIfInBounds]; omega), Array.getElem?_eq_none (by simp; omega)]
set_option maxHeartbeats 8000000 in
theorem pair_rd {R b o Q c at_ : Nat} {F : List UInt8} {CS : Array Value} {w : World} (h : RdM w R b o Q c at_ F CS) (hlt : R < w.heap.size) (field : Value) (hn : at_ + 65 ≤ Q) (hz : F.getD at_ 0 ≠ 0) :
    Calls Tryd.prog 41 #[.pointer (some ⟨R, 0, none⟩), field] w fun e w' =>
      e = .returned (.agg (pairA (pairOf (segL F at_ 65)))) ∧ RdM w' R b o Q c (at_ + 65) F CS ∧ Keep (fun k => k = R) w w' := by
  have hB := boxed w (.cells Tryd.zeroCells29 29)
  have hZ := heap_alloc_new w (.cells Tryd.zeroCells29 29)
  have h1 := h.on hB
  have hQc := h.hQ
  replace h := Lib.hid h
  go_enter Tryd.func41, Tryd.ntmps41
  go_upto_region 1 with fail
  generalize w.alloc (.cells Tryd.zeroCells29 29) = w1 at hB hZ h1 ⊢
  have c1 := h1.c1
  replace h1 := Lib.hid h1
  replace hB := Lib.hid hB
  go_wp2_with fail
  refine (take_rd h1.out 65 _ _ hn).mono ?_
  rintro e w2 ⟨rfl, h2, hK⟩
  have hZ2 := Lib.hid (hK.heap (show ¬ w.heap.size = R by omega) hZ)
  have hK2 := Lib.hid ((Keep.of_below (D := fun k => k = R) hB.out).trans hK)
  have hl65 : (segL F at_ 65).length = 65 := segL_len (by rw [h2.hF]; exact hn)
  have x0 := h2.cell (j := at_) (by omega) (o + at_) rfl
  have e0 : (segL F at_ 65).getD 0 0 = F.getD at_ 0 := segL_getD F at_ 65 0 (by decide)
  have s1 := h2.seg (at_ + 1) 32
  have s2 := h2.seg (at_ + 33) 32
  rw [← segL_seg F at_ 65 1 32 (by decide), ← Nat.add_assoc] at s1
  rw [← segL_seg F at_ 65 33 32 (by decide), ← Nat.add_assoc] at s2
  rw [← e0] at x0 hz
  have hy : nb ((segL F at_ 65).getD 0 0) ≠ 0 := fun e => hz (nb_inj e)
  clear hB h1 c1 hK hZ e0 hz
  generalize hSe : segL F at_ 65 = S at hl65 x0 s1 s2 hy
  replace hSe := Lib.hid hSe
  have l1 : (segL S 1 32).length = 32 := segL_len (by omega)
  have l2 : (segL S 33 32).length = 32 := segL_len (by omega)
  have r1 := Lib.hid (row_bs s1 l1)
  have r2 := Lib.hid (row_bs s2 l2)
  have hi1 : (Tryd.prog.info? 27).map (·.size) = some (arrB (segL S 1 32)).size := by simp only [arrB, List.size_toArray, List.length_map, l1]; kernel_rfl
  have hi2 : (Tryd.prog.info? 27).map (·.size) = some (arrB (segL S 33 32)).size := by simp only [arrB, List.size_toArray, List.length_map, l2]; kernel_rfl
  have hPO := pairOf_ok hl65
  have hpA : pairA (pairOf S) = #[.int .i64 (nb (S.getD 0 0))] ++ arrB (segL S 1 32) ++ arrB (segL S 33 32) := rfl
  have hPs := pairA_size hPO
  have hPone := pairA_one (pairOf S)
  have hzb := nb_bd (S.getD 0 0)
  generalize nb (S.getD 0 0) = z at x0 hy hpA hzb
  generalize hPe : pairA (pairOf S) = PA at hpA hPs hPone
  replace hPe := Lib.hid hPe
  have hbl : (z != 0) = true := by simpa using hy
  have hwf : IntKind.i64.wrap z = z := by rw [IntKind.wrap_i64]; omega
  have hwf2 : wrap64 z = z := IntWalk.wrap64_in _ ⟨by omega, by omega⟩
  have ha1 := arrAtE
  have hc1 : (33 : Int) ≤ ((c - at_ : Nat) : Int) := by omega
  have hc2 : ¬ (c - at_ = 1) := by omega
  have hc3 : ¬ (c - at_ = 33) := by omega
  replace h2 := Lib.hid h2
  replace hpA := Lib.hid hpA
  have hif : (Tryd.prog.info? 29).map (·.size) = some PA.size := by rw [hPs]; kernel_rfl
  have z1 : (arrB (segL S 1 32)).size = 32 := by simp [arrB, l1]
  have z2 : (arrB (segL S 33 32)).size = 32 := by simp [arrB, l2]
  clear hPO hl65 s1 s2 l1 l2
  generalize arrB (segL S 1 32) = A1 at *
  generalize arrB (segL S 33 32) = A2 at *
  go_wp2_with fail
  refine (need_same _ _ _ _).mono ?_
  rintro e w3 ⟨rfl, rfl⟩
  clear hbl
  go_wp2_with fail
  refine wp_region_still_tail 13 (by kernel_rfl) (by kernel_rfl) ?_
  simp only [List.take_succ_cons, List.take_zero, List.drop_succ_cons, List.drop_zero]
  iterate 7 still_step
  refine wpStill_step (fun K hK => ?_)
  refine still_loadR rfl _ _ rfl b (o + at_ + 1) rfl A1 r1.out _ Tryd.underlying27 rfl hi1 ?_
  refine hK _ ?_
  clear hK K
  iterate 3 still_step
  refine wpStill_step (fun K hK => ?_)
  refine still_loadR rfl _ _ rfl b (o + at_ + 33) rfl A2 r2.out _ Tryd.underlying27 rfl hi2 ?_
  refine hK _ ?_
  clear hK K
  have pf1 := put_foldN z1 1
  have pf2 := put_foldN z2 33
  have ps1 : (setRange (Tryd.zeroCells29.setIfInBounds 0 (.int .i64 z)) 1 A1.toList).size = 65 := by rw [setRange_size, Array.size_setIfInBounds]; exact pairZ_size
  have pb := pairZ_build z A1 A2 z1 z2
  rw [← hpA.out] at pb
  still_step
  refine wpStill_nil ?_
  change wpList _ _ _ _ _ w3.drew
  clear pf1 pf2 ps1 pb ha1 z1 z2 hi1 hi2 r1 r2 x0
  have hZ3 : Hid (w3.drew.heap[w.heap.size]? = some (.cells Tryd.zeroCells29 29 (0, 0))) := Lib.hid hZ2.out
  have h3 := h2.out.drewN 1
  have hK3 := hK2.out.trans (Keep.drewN (D := fun k => k = R) (w := w3) 1)
  have h3 : Hid (RdM w3.drew R b o Q c (at_ + 65) F CS) := Lib.hid h3
  have hK3 : Hid (Keep (fun k => k = R) w w3.drew) := Lib.hid hK3
  clear hZ2 h2 hK2
  generalize w3.drew = w4 at hZ3 h3 hK3 ⊢
  have hKy := setRow_keep w4 w.heap.size PA
  have hYz := setRow_heap w4 w.heap.size _ PA _ _ hZ3.out
  have hzD : Tryd.zeroCells29.size = PA.size := by rw [hPs]; exact pairZ_size
  have hb4 := heap_lt h3.out.hR
  have hbl : b ≠ w.heap.size := fun e => by
    have hx := h.out.hb
    have hp := h.out.hF
    obtain ⟨b', o', e', hc⟩ := hx (by omega)
    cases e'
    have := cell_lt (hc 0 (by omega))
    exact absurd this (by show ¬ b < w.heap.size; omega)
  have h5 := h3.out.keep hKy (show ¬ R = w.heap.size by omega) hbl
  have hK5 : Keep (fun k => k = R) w (w4.setRow w.heap.size PA) := by
    have k := hK3.out
    refine ⟨k.os, k.tape, k.output, Nat.le_trans k.size hKy.size, fun i hi hd => ?_⟩
    rw [hKy.block i (Nat.lt_of_lt_of_le hi k.size) (show ¬ i = w.heap.size by omega)]
    exact k.block i hi hd
  replace hYz := Lib.hid hYz
  replace h5 := Lib.hid h5
  replace hK5 := Lib.hid hK5
  clear hKy
  go_wp2_with (refine wpList_storeW _ rfl _ _ _ rfl w.heap.size PA rfl rfl _ _ hZ3.out hif hzD hPone ?_)
  have hL := run_loadVar_row (P := Tryd.prog) _ w.heap.size 29 29 PA (0, 0) _ hYz.out Tryd.underlying29 rfl hif
  exact bodyPost_ret (v := .agg PA) (results_cell1 rfl _ _ ⟨w.heap.size, 0, none⟩ (.agg PA) rfl hL) rfl ⟨by rw [hSe.out, hPe.out], h5.out, hK5.out⟩
end Go.Proofs.YtmnmmabhmedioaaDoor
/- Wire: the frame of Decode; what it answers. -/
namespace Go.Proofs.YtmnmmabhmedioaaDoor
open Go.RowKit
set_option linter.unusedVariables false
set_option linter.unusedSimpArgs false
set_option maxRecDepth 100000

theorem need_no (s : List UInt8) (at_ why : Int) (w : World) (p : Bool) (hp : p = false) :
    Calls Tryd.prog 38 #[.bool p, .string ⟨s.toArray⟩, .int .i64 at_, .int .i64 why] w fun e w' => ∃ b, e = Threw b ∧ w.heap.size ≤ b ∧ FaultAt w' b ⟨s, at_, why⟩ ∧ Below w.heap.size w w' := by
  subst hp
  exact need_false s at_ why w

/-- The results' blocks of Decode, as they were at the beginning. -/
structure FrD (w0 w : World) : Prop where
  hZ : w.heap[w0.heap.size]? = some (.cells Tryd.zeroCells36 36 (0, 0))
  hE : w.heap[w0.heap.size + 1]? = some (.cells #[.nilIface] 38 (0, 0))
  hB : Below w0.heap.size w0 w
theorem FrD.on {w0 w w' : World} (h : FrD w0 w) (k : Below w.heap.size w w') : FrD w0 w' := ⟨heap_on k h.hZ, heap_on k h.hE, later' h.hB k h.hB.size⟩
theorem FrD.keepR {w0 w w' : World} {R : Nat} (h : FrD w0 w) (k : Keep (fun i => i = R) w w') (hR : w0.heap.size + 2 ≤ R) : FrD w0 w' :=
  ⟨k.heap (show ¬ w0.heap.size = R by omega) h.hZ, k.heap (show ¬ w0.heap.size + 1 = R by omega) h.hE, below_keep h.hB k (fun i e => by omega) h.hB.size⟩
theorem RdM.lt {w : World} {R b o Q c at_ : Nat} {F : List UInt8} {CS : Array Value} (h : RdM w R b o Q c at_ F CS) : R < w.heap.size := heap_lt h.hR
theorem rdZ : Tryd.zeroCells107 = #[.slice none 0 0, .int .i64 0] ++ Tryd.zeroCells36 := by kernel_rfl
theorem rd0 (b o Q c : Nat) : (Tryd.zeroCells107.setIfInBounds 0 (.slice (some ⟨b, o, none⟩) Q c)).setIfInBounds 1 (.int .i64 10) = rdA b o Q c 10 Tryd.zeroCells36 := by
  have e : (Tryd.zeroCells107.setIfInBounds 0 (.slice (some ⟨b, o, none⟩) Q c)) = rdA b o Q c 0 Tryd.zeroCells36 := by
    rw [rdZ]
    apply Array.ext_getElem?
    intro i
    match i with
    | 0 => rw [Array.getElem?_setIfInBounds_self_of_lt (by simp), rdA_0]
    | 1 => rw [Array.getElem?_setIfInBounds_ne (by decide), rdA_1]; simp
    | i + 2 =>
      rw [Array.getElem?_setIfInBounds_ne (by omega), Nat.add_comm i 2, rdA_2, Array.getElem?_append_right (by simp)]
      congr 1
      simp
  rw [e]
  exact rdA_at b o Q c 0 10 _
theorem RdM.made (w : World) (b o Q c : Nat) (F : List UInt8) (hb : Bs w (some ⟨b, o, none⟩) F) (hF : F.length = Q) (hQ : Q < c) (hc : Q ≤ 1099511627776) (ne : b ≠ w.heap.size) (hat : 10 ≤ Q) :
    RdM (w.alloc (.cells ((Tryd.zeroCells107.setIfInBounds 0 (.slice (some ⟨b, o, none⟩) Q c)).setIfInBounds 1 (.int .i64 10)) 107)) w.heap.size b o Q c 10 F Tryd.zeroCells36 :=
  ⟨by rw [rd0]; exact heap_alloc_new w _, hb.on (boxed _ _), hF, hQ, hc, ne, hat⟩

def DecGood (w : World) (m : Msg) (e : Ending) (w' : World) : Prop :=
  ∃ cs LA lc TA tc, e = .returned (.tuple #[.agg cs, .nilIface]) ∧ MsgC cs m (.slice LA m.list.length lc) (.slice TA m.text.length tc) ∧ OwnP w' w.heap.size LA lc m.list ∧ OwnB w' w.heap.size TA tc m.text ∧ PairsOk m.list ∧ Below w.heap.size w w'
def DecPost (w : World) (dr : DR) (e : Ending) (w' : World) : Prop :=
  match dr with
  | .bad f => DecBad w f e w'
  | .ok m => DecGood w m e w'
theorem DecPost.bad {w w' : World} {dr : DR} {f : FD} {e : Ending} (hP : dr = .bad f) (h : DecBad w f e w') : DecPost w dr e w' := by subst hP; exact h
theorem DecPost.ok {w w' : World} {dr : DR} {m : Msg} {e : Ending} (hP : dr = .ok m) (h : DecGood w m e w') : DecPost w dr e w' := by subst hP; exact h
theorem PairsOk.nil : PairsOk [] := fun i => by simpa using pair0_ok

theorem takeF_bad {F field : List UInt8} {fr at_ n : Nat} {k : List UInt8 → DR} {dr : DR} (h : takeF F field fr at_ n k = dr) (hl : F.length < at_ + n) : dr = .bad ⟨field, fr, 3⟩ := by rw [takeF, if_pos hl] at h; exact h.symm
theorem takeF_ok {F field : List UInt8} {fr at_ n : Nat} {k : List UInt8 → DR} {dr : DR} (h : takeF F field fr at_ n k = dr) (hl : ¬ F.length < at_ + n) : k (segL F at_ n) = dr := by rw [takeF, if_neg hl] at h; exact h
theorem tailF_bad {F : List UInt8} {at_ : Nat} {m : Msg} {dr : DR} (h : tailF F at_ m = dr) (hl : ¬ at_ = F.length) : dr = .bad ⟨kTail, at_, 104⟩ := by rw [tailF, if_neg hl] at h; exact h.symm
theorem tailF_ok {F : List UInt8} {at_ : Nat} {m : Msg} {dr : DR} (h : tailF F at_ m = dr) (hl : at_ = F.length) : dr = .ok m := by rw [tailF, if_pos hl] at h; exact h.symm
theorem pairF_short {F field : List UInt8} {at_ : Nat} {k : Pair → DR} {dr : DR} (h : pairF F field at_ k = dr) (hl : F.length < at_ + 65) : dr = .bad ⟨field, at_, 3⟩ := by rw [pairF, if_pos hl] at h; exact h.symm
theorem pairF_zero {F field : List UInt8} {at_ : Nat} {k : Pair → DR} {dr : DR} (h : pairF F field at_ k = dr) (hl : ¬ F.length < at_ + 65) (hz : F.getD at_ 0 = 0) : dr = .bad ⟨field, at_, 4⟩ := by rw [pairF, if_neg hl, if_pos hz] at h; exact h.symm
theorem pairF_ok {F field : List UInt8} {at_ : Nat} {k : Pair → DR} {dr : DR} (h : pairF F field at_ k = dr) (hl : ¬ F.length < at_ + 65) (hz : ¬ F.getD at_ 0 = 0) : k (pairOf (segL F at_ 65)) = dr := by rw [pairF, if_neg hl, if_neg hz] at h; exact h
theorem ifF_yes {p : Prop} [Decidable p] {a b dr : DR} (h : (if p then a else b) = dr) (hp : p) : a = dr := by rw [if_pos hp] at h; exact h
theorem ifF_no {p : Prop} [Decidable p] {a b dr : DR} (h : (if p then a else b) = dr) (hp : ¬ p) : b = dr := by rw [if_neg hp] at h; exact h
theorem arrAtS (b o c : Nat) (w : World) : (Instr.arrayAt 31 (.slice (some ⟨b, o, none⟩) 32 c)).run Tryd.prog w = .ok (.pointer (some ⟨b, o, none⟩)) w := by
  simp [Instr.arrayAt, run_underlying Tryd.underlying31]
theorem arrAt64 (b o c : Nat) (w : World) : (Instr.arrayAt 33 (.slice (some ⟨b, o, none⟩) 64 c)).run Tryd.prog w = .ok (.pointer (some ⟨b, o, none⟩)) w := by
  simp [Instr.arrayAt, run_underlying Tryd.underlying33]
end Go.Proofs.YtmnmmabhmedioaaDoor
/- Wire: Decode of a frame whose sum fits: kinds 1, 2. (Printed by gen_dec2.py.) -/
namespace Go.Proofs.YtmnmmabhmedioaaDoor
open Go.RowKit
set_option linter.unusedVariables false
set_option linter.unusedSimpArgs false
set_option maxRecDepth 100000

set_option maxHeartbeats 16000000 in
theorem decode_k1 (b o c : Nat) (kd : UInt8) (body s4 : List UInt8) (w : World) (N L Q : Nat) (hk1 : 1 ≤ nb kd) (hk6 : nb kd ≤ 6) (hN : body.length = N) (hNm : N ≤ 1065189) (h4 : s4.length = 4) (hLd : 14 + N = L) (hQd : 10 + N = Q) (hc : L ≤ c) (hlt : b < w.heap.size) (hkd : nb kd = 1) (hsum4 : s4 = (sha (preL kd body)).take 4) (hb : Bs w (some ⟨b, o, none⟩) (preL kd body ++ s4)) (dr : DR) (hdr : bodyF kd (preL kd body) = dr) :
    Calls Tryd.prog 11 #[.slice (some ⟨b, o, none⟩) L c] w (DecPost w dr) := by
  have hpl : (preL kd body).length = Q := by rw [preL_len]; omega
  unfold bodyF at hdr
  replace hdr := Lib.hid hdr
  replace hb := Lib.hid hb
  go_enter_defers Tryd.func11, Tryd.ntmps11
  go_upto_region 2 with fail
  have hZ : ((w.alloc (.cells Tryd.zeroCells36 36)).alloc (.cells #[.nilIface] 38)).heap[w.heap.size]? = some (.cells Tryd.zeroCells36 36 (0, 0)) := by
    rw [heap_alloc?, if_neg (by simp)]; exact heap_alloc_new w _
  have hE : ((w.alloc (.cells Tryd.zeroCells36 36)).alloc (.cells #[.nilIface] 38)).heap[w.heap.size + 1]? = some (.cells #[.nilIface] 38 (0, 0)) := by
    rw [heap_alloc?, if_pos (by simp)]
  have hB : Below w.heap.size w ((w.alloc (.cells Tryd.zeroCells36 36)).alloc (.cells #[.nilIface] 38)) := later (boxed _ _) (boxed _ _)
  have hsz : ((w.alloc (.cells Tryd.zeroCells36 36)).alloc (.cells #[.nilIface] 38)).heap.size = w.heap.size + 2 := by simp
  generalize ((w.alloc (.cells Tryd.zeroCells36 36)).alloc (.cells #[.nilIface] 38)) = w1 at hZ hE hB hsz ⊢
  have hb1 := hb.out.on hB
  replace hZ := Lib.hid hZ
  replace hE := Lib.hid hE
  go_wp2_with fail
  have hpk := peek_frame b o c kd body s4 w1 N L hk1 hk6 hN hNm h4 hLd hc hb1
  rw [hkd] at hpk
  refine hpk.mono ?_
  rintro e w2 ⟨rfl, md, hw2⟩
  have hb2 : Bs w2 (some ⟨b, o, none⟩) (preL kd body ++ s4) := by rw [hw2]; exact hb1
  have hB2 : Below w.heap.size w w2 := by rw [hw2]; exact below_drewN hB md
  have hs2 : w2.heap.size = w.heap.size + 2 := by rw [hw2]; exact hsz
  have hZ2 : w2.heap[w.heap.size]? = some (.cells Tryd.zeroCells36 36 (0, 0)) := by rw [hw2]; exact hZ.out
  have hE2 : w2.heap[w.heap.size + 1]? = some (.cells #[.nilIface] 38 (0, 0)) := by rw [hw2]; exact hE.out
  have hbp : Bs w2 (some ⟨b, o, none⟩) (preL kd body) := by
    have h := hb2.take Q
    rw [List.take_append_of_le_length (by omega), List.take_of_length_le (by omega)] at h
    exact h
  replace hZ2 := Lib.hid hZ2
  replace hE2 := Lib.hid hE2
  replace hb2 := Lib.hid hb2
  replace hbp := Lib.hid hbp
  replace hB2 := Lib.hid hB2
  have hcQ : (Q : Int) ≤ (c : Int) := by omega
  have hcL : (L : Int) ≤ (c : Int) := by omega
  have hwQ : wrap64 ((L : Int) - 4) = (Q : Int) := by rw [IntWalk.wrap64_in _ ⟨by omega, by omega⟩]; omega
  have hq0 : (0 : Int) ≤ (Q : Int) := by omega
  have hL4 : L - 4 = Q := by omega
  have hL4i : (L : Int) - 4 = (Q : Int) := by omega
  clear hpk hw2 hZ hE hB hsz hb1 hb
  go_wp2_with fail
  refine (need_same _ _ _ _).mono ?_
  rintro e w' ⟨rfl, rfl⟩
  go_wp2_with fail
  refine (need_same _ _ _ _).mono ?_
  rintro e w2 ⟨rfl, rfl⟩
  go_wp2_with fail
  have hsum := sum1_any b o c (preL kd body) w2 (by omega) (by omega) hbp.out (by omega)
  rw [hpl] at hsum
  refine hsum.mono ?_
  rintro e w3 ⟨rfl, hB3⟩
  clear hsum
  rename_i hK
  have hs3 := hB3.size
  have hD := sha_length (preL kd body)
  have hb3 := hb2.out.on hB3
  have hfx : ∀ i, i < 4 → (preL kd body ++ s4).getD (Q + i) 0 = s4.getD i 0 := fun i hi => by
    rw [List.getD_eq_getElem?_getD, List.getElem?_append_right (by omega), hpl, show Q + i - Q = i from by omega, ← List.getD_eq_getElem?_getD]
  have hcl := fun i (hi : i < 4) => hb3.at (Q + i) (by simp [h4]; omega)
  have x0 : w3.cell? ⟨b, o + Q, none⟩ = some (B8 (s4.getD 0 0)) := by rw [← hfx 0 (by omega)]; exact hcl 0 (by omega)
  have x1 : w3.cell? ⟨b, o + Q + 1, none⟩ = some (B8 (s4.getD 1 0)) := by rw [← hfx 1 (by omega)]; exact hcl 1 (by omega)
  have x2 : w3.cell? ⟨b, o + Q + 2, none⟩ = some (B8 (s4.getD 2 0)) := by rw [← hfx 2 (by omega)]; exact hcl 2 (by omega)
  have x3 : w3.cell? ⟨b, o + Q + 3, none⟩ = some (B8 (s4.getD 3 0)) := by rw [← hfx 3 (by omega)]; exact hcl 3 (by omega)
  have hsz : ((sha (preL kd body)).map B8).toArray.size = 64 := by rw [List.size_toArray, List.length_map, hD]
  have hone : ((sha (preL kd body)).map B8).toArray.all (·.oneCell') = true := all_oneCell_toArray one_bytes
  have hget : ∀ i, i < 64 → ((sha (preL kd body)).map B8).toArray[i]? = some (B8 ((sha (preL kd body)).getD i 0)) := fun i hi => by
    rw [List.getElem?_toArray, List.getElem?_map, List.getD_eq_getElem?_getD, List.getElem?_eq_getElem (show i < (sha (preL kd body)).length by omega)]
    rfl
  clear hfx hcl hbp hb2
  replace hb3 := Lib.hid hb3
  have hZ3 := Lib.hid (heap_on hB3 hZ2.out)
  have hE3 := Lib.hid (heap_on hB3 hE2.out)
  have hB33 := Lib.hid (later' hB2.out hB3)
  clear hZ2 hE2 hB2 hB3
  refine hK _ _ ?_
  clear hK
  generalize ((sha (preL kd body)).map B8).toArray = DA at hsz hone hget ⊢
  generalize (sha (preL kd body)) = S at hget hD hsum4
  have hif : (Tryd.prog.info? 97).map (·.size) = some DA.size := by rw [hsz]; kernel_rfl
  refine wpList_value (w' := w3.alloc (.cells z64 97)) rfl (.pointer (some ⟨w3.heap.size, 0, none⟩)) (by kernel_rfl) ?_
  refine wpList_skips (w' := w3.alloc (.cells DA 97)) rfl ?_ ?_
  · have h := run_storeAt_new (P := Tryd.prog) w3 97 z64 DA hif (by rw [hsz]; rfl) hone
    show (Instr.storeAt 97 (.pointer (some ⟨w3.heap.size, 0, none⟩)) (.agg DA) >>= fun _ => pure Next.skip : Sem Next).run Tryd.prog _ = _
    simp only [Sem.run_bind, h, Result.andThen, Sem.run_pure]
  refine wpList_nil ?_
  simp only [Act.put]
  have hDn := heap_alloc_new w3 (.cells DA 97)
  have hB34 := boxed w3 (.cells DA 97)
  have y0 : (w3.alloc (.cells DA 97)).cell? ⟨w3.heap.size, 0, none⟩ = some (B8 (S.getD 0 0)) := cell_of hDn (hget 0 (by omega))
  have y1 : (w3.alloc (.cells DA 97)).cell? ⟨w3.heap.size, 1, none⟩ = some (B8 (S.getD 1 0)) := cell_of hDn (hget 1 (by omega))
  have y2 : (w3.alloc (.cells DA 97)).cell? ⟨w3.heap.size, 2, none⟩ = some (B8 (S.getD 2 0)) := cell_of hDn (hget 2 (by omega))
  have y3 : (w3.alloc (.cells DA 97)).cell? ⟨w3.heap.size, 3, none⟩ = some (B8 (S.getD 3 0)) := cell_of hDn (hget 3 (by omega))
  replace x0 := cell_on hB34 x0
  replace x1 := cell_on hB34 x1
  replace x2 := cell_on hB34 x2
  replace x3 := cell_on hB34 x3
  have hb4 := Lib.hid (hb3.out.on hB34)
  have hZ4 := Lib.hid (heap_on hB34 hZ3.out)
  have hE4 := Lib.hid (heap_on hB34 hE3.out)
  have hB44 := Lib.hid (later' hB33.out hB34)
  have hs4 : (w3.alloc (.cells DA 97)).heap.size = w3.heap.size + 1 := by simp
  clear hDn hB34 hget hone hif hsz hZ3 hE3 hB33 hb3
  generalize w3.alloc (.cells DA 97) = w4 at *
  have hqq : ∀ i, i < 4 → s4.getD i 0 = S.getD i 0 := fun i hi => by rw [hsum4, getD_take _ hi]
  rw [hqq 0 (by omega)] at x0
  rw [hqq 1 (by omega)] at x1
  rw [hqq 2 (by omega)] at x2
  rw [hqq 3 (by omega)] at x3
  clear hqq hD
  clear hsum4
  generalize S.getD 0 0 = q0 at *
  generalize S.getD 1 0 = q1 at *
  generalize S.getD 2 0 = q2 at *
  generalize S.getD 3 0 = q3 at *
  have ha4 := arrAt4
  have he4 := eql4_same q0 q1 q2 q3
  have hc1 : ¬ (c = Q) := by omega
  have hwQ2 : IntKind.i64.wrap (Q : Int) = (Q : Int) := by rw [IntKind.wrap_i64]; omega
  have hc2 : (4 : Int) ≤ ((c - Q : Nat) : Int) := by omega
  have hLQ : L - Q = 4 := by omega
  have hQL : (Q : Int) ≤ (L : Int) := by omega
  go_wp2_with fail
  go_quiet ((go_at_call 38; exact Calls.quiet_of_same (need_same _ _ _ _)))
  have hb5 : Bs (w4.drewN nq) (some ⟨b, o, none⟩) (preL kd body) := by
    have h := (Bs.drewN hb4.out nq).take Q
    rw [List.take_append_of_le_length (by omega), List.take_of_length_le (by omega)] at h
    exact h
  have hFr5 : FrD w (w4.drewN nq) := ⟨hZ4.out, hE4.out, below_drewN hB44.out nq⟩
  have hs5 : w.heap.size + 2 ≤ (w4.drewN nq).heap.size := by simp only [World.heap_drewN]; omega
  clear hb4 hZ4 hE4 hB44 hs4 x0 x1 x2 x3 y0 y1 y2 y3 he4 ha4
  generalize w4.drewN nq = w5 at hb5 hFr5 hs5 ⊢
  replace hb5 := Lib.hid hb5
  replace hFr5 := Lib.hid hFr5
  go_upto_region 8 with fail
  have hRd := RdM.made w5 b o Q c (preL kd body) hb5.out hpl (by omega) (by omega) (by omega) (by omega)
  have hFr := hFr5.out.on (boxed w5 (.cells ((Tryd.zeroCells107.setIfInBounds 0 (.slice (some ⟨b, o, none⟩) Q c)).setIfInBounds 1 (.int .i64 10)) 107))
  have hR2 : w.heap.size + 2 ≤ w5.heap.size := hs5
  clear hb5 hFr5 hs5 hcQ hcL hwQ hq0 hL4 hL4i hwQ2 hc2 hLQ hQL hc1
  generalize hRe : w5.heap.size = R at hRd hR2 ⊢
  generalize w5.alloc (.cells ((Tryd.zeroCells107.setIfInBounds 0 (.slice (some ⟨b, o, none⟩) Q c)).setIfInBounds 1 (.int .i64 10)) 107) = w6 at hRd hFr ⊢
  have hRne : w.heap.size + 2 ≤ R := hR2
  have hM := Lib.hid zC_msg
  obtain ⟨CS0, hCS⟩ : ∃ x, x = Tryd.zeroCells36 := ⟨_, rfl⟩
  rw [← hCS] at hRd hM
  clear hCS
  have l2 := hRd.c2 hM.out.kind 2 rfl
  have lf := hRd.free 2
  replace hRd := Lib.hid hRd
  replace hFr := Lib.hid hFr
  go_upto_region 9 with fail
  clear l2 lf
  have hRd2 := hRd.out.set1 0 (.int .i64 1) 2 rfl
  have hFr2 := hFr.out.keepR (Keep.set (fun k => k = R) R 2 (.int .i64 1) rfl) hRne
  have hM2 := hM.out.set_kind 1
  clear hRd hFr hM
  generalize (w6.setCell ⟨R, 2, none⟩ (.int .i64 1)) = w7 at hRd2 hFr2 ⊢
  obtain ⟨CS7, hCS2⟩ : ∃ x, x = setRange CS0 0 [.int .i64 1] := ⟨_, rfl⟩
  rw [← hCS2] at hRd2 hM2
  clear hCS2 CS0
  have l1 := hRd2.c1
  have hRd := Lib.hid hRd2
  have hFr := Lib.hid hFr2
  have hM := Lib.hid hM2
  clear hRd2 hFr2 hM2
  go_wp2_with fail
  by_cases hltw7 : Q < 10 + 32
  · have hP := Lib.hid (takeF_bad hdr.out (by rw [hpl]; exact hltw7))
    clear hdr
    refine (take_rd_short hRd.out 32 kSession _ hltw7 (by omega)).mono ?_
    rintro e w8 ⟨q, rfl, hq, hF, hK⟩
    have hFr := hFr.out.keepR hK hRne
    have hq2 : w.heap.size + 2 ≤ q := Nat.le_trans (Nat.le_trans hRne (Nat.le_of_lt hRd.out.lt)) hq
    replace hF := Lib.hid hF
    clear hRd hM hK hq
    obtain ⟨hZ3, hE3, hB33⟩ := hFr
    have ce : w8.cell? ⟨w.heap.size + 1, 0, none⟩ = some .nilIface := cell_of hE3 rfl
    have cf : w8.frozen? ⟨w.heap.size + 1, 0, none⟩ = false := free_of hE3
    replace hE3 := Lib.hid hE3
    replace hZ3 := Lib.hid hZ3
    replace hB33 := Lib.hid hB33
    go_wp2_with fail
    have hEf := cell_of (heap_set (o := 0) hE3.out (errOf q)) (off := 0) rfl
    have hKf : Keep (fun k => k = w.heap.size + 1) w8 (w8.setCell ⟨w.heap.size + 1, 0, none⟩ (errOf q)) := Keep.set (fun k => k = w.heap.size + 1) _ _ _ rfl
    have hZf := hKf.heap (show ¬ w.heap.size = w.heap.size + 1 by omega) hZ3.out
    have hFf := hKf.heap (show ¬ q = w.heap.size + 1 by omega) hF.out
    have hBf := below_keep hB33.out hKf (fun i e => by omega) hB33.out.size
    have hif : (Tryd.prog.info? 36).map (·.size) = some Tryd.zeroCells36.size := by kernel_rfl
    have hL := run_loadVar_row (P := Tryd.prog) _ w.heap.size 36 36 _ (0, 0) _ hZf Tryd.underlying36 rfl hif
    have hL2 : (loadVar 38 ⟨w.heap.size + 1, 0, none⟩).run Tryd.prog (w8.setCell ⟨w.heap.size + 1, 0, none⟩ (errOf q)) = .ok (errOf q) (w8.setCell ⟨w.heap.size + 1, 0, none⟩ (errOf q)) := by simp [go_sem, hEf]
    refine leaves_cons (f := 36) (args := #[.pointer (some ⟨w.heap.size + 1, 0, none⟩)]) (by simp) (by simp [go_sem]) ?_
    refine (caught_panicking ⟨w.heap.size + 1, 0, none⟩ q .nilIface [] _ ce cf).mono ?_
    rintro e u' w'' ⟨rfl, rfl, rfl⟩
    exact ⟨_, results_cell2 rfl _ _ ⟨w.heap.size, 0, none⟩ ⟨w.heap.size + 1, 0, none⟩ (.agg Tryd.zeroCells36) (errOf q) rfl rfl hL hL2, DecPost.bad hP.out ⟨q, rfl, hFf, hBf⟩⟩

  replace hdr := Lib.hid (takeF_ok hdr.out (by rw [hpl]; omega))
  refine (take_rd hRd.out 32 _ _ (by omega)).mono ?_
  rintro e w8 ⟨rfl, hRd2, hK⟩
  replace hFr := Lib.hid (hFr.out.keepR hK hRne)
  replace hRd : Hid (RdM w8 R b o Q c 42 (preL kd body) CS7) := Lib.hid hRd2
  have hsl := segL_len (l := preL kd body) (at_ := 10) (n := 32) (by rw [hpl]; omega)
  clear hRd2 hK l1
  have hss := hRd.out.seg 10 32
  obtain ⟨sg, hsgd⟩ : ∃ x, x = segL (preL kd body) 10 32 := ⟨_, rfl⟩
  rw [← hsgd] at hss hsl hdr
  clear hsgd
  rename_i hK
  refine hK _ _ ?_
  clear hK
  refine wpList_value (w' := w8) rfl (.pointer (some ⟨b, o + 10, none⟩)) (by
    show (Instr.arrayAt 26 (.slice (some ⟨b, o + 10, none⟩) 32 (c - 10)) >>= fun v => pure (Next.value v) : Sem Next).run Tryd.prog w8 = _
    simp only [Sem.run_bind, arrAt32, Result.andThen, Sem.run_pure]) ?_
  have hif : (Tryd.prog.info? 26).map (·.size) = some (sg.map B8).length := by rw [List.length_map, hsl]; kernel_rfl
  refine wpList_load_mid rfl _ _ rfl b (o + 10) rfl (sg.map B8) _ hss.range Tryd.underlying26 rfl hif ?_
  have hif2 : (Tryd.prog.info? 26).map (·.size) = some (sg.map B8).toArray.size := by rw [List.size_toArray]; exact hif
  have hone : (sg.map B8).toArray.all (·.oneCell') = true := all_oneCell_toArray one_bytes
  have hsL : (sg.map B8).toArray.toList = sg.map B8 := rfl
  have hssz : (sg.map B8).toArray.size = 32 := by simp [hsl]
  generalize (sg.map B8).toArray = SA at hif2 hone hsL hssz ⊢
  have hth := hRd.out.there 3 SA.size (by rw [hM.out.size, hssz]; omega)
  clear hss hif
  go_upto_region 10 with (refine wpList_store_mid rfl _ _ _ rfl R 3 SA rfl rfl hth hif2 hone ?_)
  try rw [hsL]
  clear hth hif2 hone hsL hssz
  have hRd2 := hRd.out.setN 1 (sg.map B8) 3 rfl
  have hFr2 := hFr.out.keepR (setCells_keep w8 R 3 (sg.map B8)) hRne
  have hM2 := hM.out.set_session sg hsl
  clear hRd hFr hM
  generalize (w8.setCells R 3 (sg.map B8)) = w9 at hRd2 hFr2 ⊢
  obtain ⟨CS9, hCS2⟩ : ∃ x, x = setRange CS7 1 (sg.map B8) := ⟨_, rfl⟩
  rw [← hCS2] at hRd2 hM2
  clear hCS2 CS7
  have l1 := hRd2.c1
  have hRd := Lib.hid hRd2
  have hFr := Lib.hid hFr2
  have hM := Lib.hid hM2
  clear hRd2 hFr2 hM2
  go_wp2_with fail
  by_cases hltw9 : Q < 42 + 1
  · have hP := Lib.hid (takeF_bad hdr.out (by rw [hpl]; exact hltw9))
    clear hdr
    refine (take_rd_short hRd.out 1 kFrom _ hltw9 (by omega)).mono ?_
    rintro e w10 ⟨q, rfl, hq, hF, hK⟩
    have hFr := hFr.out.keepR hK hRne
    have hq2 : w.heap.size + 2 ≤ q := Nat.le_trans (Nat.le_trans hRne (Nat.le_of_lt hRd.out.lt)) hq
    replace hF := Lib.hid hF
    clear hRd hM hK hq
    obtain ⟨hZ3, hE3, hB33⟩ := hFr
    have ce : w10.cell? ⟨w.heap.size + 1, 0, none⟩ = some .nilIface := cell_of hE3 rfl
    have cf : w10.frozen? ⟨w.heap.size + 1, 0, none⟩ = false := free_of hE3
    replace hE3 := Lib.hid hE3
    replace hZ3 := Lib.hid hZ3
    replace hB33 := Lib.hid hB33
    go_wp2_with fail
    have hEf := cell_of (heap_set (o := 0) hE3.out (errOf q)) (off := 0) rfl
    have hKf : Keep (fun k => k = w.heap.size + 1) w10 (w10.setCell ⟨w.heap.size + 1, 0, none⟩ (errOf q)) := Keep.set (fun k => k = w.heap.size + 1) _ _ _ rfl
    have hZf := hKf.heap (show ¬ w.heap.size = w.heap.size + 1 by omega) hZ3.out
    have hFf := hKf.heap (show ¬ q = w.heap.size + 1 by omega) hF.out
    have hBf := below_keep hB33.out hKf (fun i e => by omega) hB33.out.size
    have hif : (Tryd.prog.info? 36).map (·.size) = some Tryd.zeroCells36.size := by kernel_rfl
    have hL := run_loadVar_row (P := Tryd.prog) _ w.heap.size 36 36 _ (0, 0) _ hZf Tryd.underlying36 rfl hif
    have hL2 : (loadVar 38 ⟨w.heap.size + 1, 0, none⟩).run Tryd.prog (w10.setCell ⟨w.heap.size + 1, 0, none⟩ (errOf q)) = .ok (errOf q) (w10.setCell ⟨w.heap.size + 1, 0, none⟩ (errOf q)) := by simp [go_sem, hEf]
    refine leaves_cons (f := 36) (args := #[.pointer (some ⟨w.heap.size + 1, 0, none⟩)]) (by simp) (by simp [go_sem]) ?_
    refine (caught_panicking ⟨w.heap.size + 1, 0, none⟩ q .nilIface [] _ ce cf).mono ?_
    rintro e u' w'' ⟨rfl, rfl, rfl⟩
    exact ⟨_, results_cell2 rfl _ _ ⟨w.heap.size, 0, none⟩ ⟨w.heap.size + 1, 0, none⟩ (.agg Tryd.zeroCells36) (errOf q) rfl rfl hL hL2, DecPost.bad hP.out ⟨q, rfl, hFf, hBf⟩⟩

  replace hdr := Lib.hid (takeF_ok hdr.out (by rw [hpl]; omega))
  refine (take_rd hRd.out 1 _ _ (by omega)).mono ?_
  rintro e w10 ⟨rfl, hRd2, hK⟩
  replace hFr := Lib.hid (hFr.out.keepR hK hRne)
  replace hRd : Hid (RdM w10 R b o Q c 43 (preL kd body) CS9) := Lib.hid hRd2
  have hsl := segL_len (l := preL kd body) (at_ := 42) (n := 1) (by rw [hpl]; omega)
  clear hRd2 hK l1
  have x0 := hRd.out.cell (j := 42) (by omega) (o + 42) rfl
  have e0 : (segL (preL kd body) 42 1).getD 0 0 = (preL kd body).getD 42 0 := segL_getD _ _ _ 0 (by decide)
  rw [e0] at hdr
  generalize (preL kd body).getD 42 0 = y10 at x0 hdr
  clear hsl e0
  have m0 := hRd.out.c2 hM.out.from_ 35 rfl
  have mf := hRd.out.free 35
  have hwf : IntKind.i64.wrap (nb y10) = nb y10 := by have := nb_bd y10; rw [IntKind.wrap_i64]; omega
  have hwf2 : wrap64 (nb y10) = nb y10 := by have := nb_bd y10; exact IntWalk.wrap64_in _ ⟨by omega, by omega⟩
  go_upto_region 11 with fail
  clear x0 m0 mf hwf hwf2
  have hRd2 := hRd.out.set1 33 (.int .i64 (nb y10)) 35 rfl
  have hFr2 := hFr.out.keepR (Keep.set (fun k => k = R) R 35 (.int .i64 (nb y10)) rfl) hRne
  have hM2 := hM.out.set_from_ (nb y10)
  clear hRd hFr hM
  generalize (w10.setCell ⟨R, 35, none⟩ (.int .i64 (nb y10))) = w11 at hRd2 hFr2 ⊢
  obtain ⟨CS11, hCS2⟩ : ∃ x, x = setRange CS9 33 [.int .i64 (nb y10)] := ⟨_, rfl⟩
  rw [← hCS2] at hRd2 hM2
  clear hCS2 CS9
  have l1 := hRd2.c1
  have hRd := Lib.hid hRd2
  have hFr := Lib.hid hFr2
  have hM := Lib.hid hM2
  clear hRd2 hFr2 hM2
  go_wp2_with fail
  by_cases hltw11 : Q < 43 + 1
  · have hP := Lib.hid (takeF_bad hdr.out (by rw [hpl]; exact hltw11))
    clear hdr
    refine (take_rd_short hRd.out 1 kTo _ hltw11 (by omega)).mono ?_
    rintro e w12 ⟨q, rfl, hq, hF, hK⟩
    have hFr := hFr.out.keepR hK hRne
    have hq2 : w.heap.size + 2 ≤ q := Nat.le_trans (Nat.le_trans hRne (Nat.le_of_lt hRd.out.lt)) hq
    replace hF := Lib.hid hF
    clear hRd hM hK hq
    obtain ⟨hZ3, hE3, hB33⟩ := hFr
    have ce : w12.cell? ⟨w.heap.size + 1, 0, none⟩ = some .nilIface := cell_of hE3 rfl
    have cf : w12.frozen? ⟨w.heap.size + 1, 0, none⟩ = false := free_of hE3
    replace hE3 := Lib.hid hE3
    replace hZ3 := Lib.hid hZ3
    replace hB33 := Lib.hid hB33
    go_wp2_with fail
    have hEf := cell_of (heap_set (o := 0) hE3.out (errOf q)) (off := 0) rfl
    have hKf : Keep (fun k => k = w.heap.size + 1) w12 (w12.setCell ⟨w.heap.size + 1, 0, none⟩ (errOf q)) := Keep.set (fun k => k = w.heap.size + 1) _ _ _ rfl
    have hZf := hKf.heap (show ¬ w.heap.size = w.heap.size + 1 by omega) hZ3.out
    have hFf := hKf.heap (show ¬ q = w.heap.size + 1 by omega) hF.out
    have hBf := below_keep hB33.out hKf (fun i e => by omega) hB33.out.size
    have hif : (Tryd.prog.info? 36).map (·.size) = some Tryd.zeroCells36.size := by kernel_rfl
    have hL := run_loadVar_row (P := Tryd.prog) _ w.heap.size 36 36 _ (0, 0) _ hZf Tryd.underlying36 rfl hif
    have hL2 : (loadVar 38 ⟨w.heap.size + 1, 0, none⟩).run Tryd.prog (w12.setCell ⟨w.heap.size + 1, 0, none⟩ (errOf q)) = .ok (errOf q) (w12.setCell ⟨w.heap.size + 1, 0, none⟩ (errOf q)) := by simp [go_sem, hEf]
    refine leaves_cons (f := 36) (args := #[.pointer (some ⟨w.heap.size + 1, 0, none⟩)]) (by simp) (by simp [go_sem]) ?_
    refine (caught_panicking ⟨w.heap.size + 1, 0, none⟩ q .nilIface [] _ ce cf).mono ?_
    rintro e u' w'' ⟨rfl, rfl, rfl⟩
    exact ⟨_, results_cell2 rfl _ _ ⟨w.heap.size, 0, none⟩ ⟨w.heap.size + 1, 0, none⟩ (.agg Tryd.zeroCells36) (errOf q) rfl rfl hL hL2, DecPost.bad hP.out ⟨q, rfl, hFf, hBf⟩⟩

  replace hdr := Lib.hid (takeF_ok hdr.out (by rw [hpl]; omega))
  refine (take_rd hRd.out 1 _ _ (by omega)).mono ?_
  rintro e w12 ⟨rfl, hRd2, hK⟩
  replace hFr := Lib.hid (hFr.out.keepR hK hRne)
  replace hRd : Hid (RdM w12 R b o Q c 44 (preL kd body) CS11) := Lib.hid hRd2
  have hsl := segL_len (l := preL kd body) (at_ := 43) (n := 1) (by rw [hpl]; omega)
  clear hRd2 hK l1
  have x0 := hRd.out.cell (j := 43) (by omega) (o + 43) rfl
  have e0 : (segL (preL kd body) 43 1).getD 0 0 = (preL kd body).getD 43 0 := segL_getD _ _ _ 0 (by decide)
  rw [e0] at hdr
  generalize (preL kd body).getD 43 0 = y12 at x0 hdr
  clear hsl e0
  have m0 := hRd.out.c2 hM.out.to_ 36 rfl
  have mf := hRd.out.free 36
  have hwf : IntKind.i64.wrap (nb y12) = nb y12 := by have := nb_bd y12; rw [IntKind.wrap_i64]; omega
  have hwf2 : wrap64 (nb y12) = nb y12 := by have := nb_bd y12; exact IntWalk.wrap64_in _ ⟨by omega, by omega⟩
  go_upto_region 12 with fail
  clear x0 m0 mf hwf hwf2
  have hRd2 := hRd.out.set1 34 (.int .i64 (nb y12)) 36 rfl
  have hFr2 := hFr.out.keepR (Keep.set (fun k => k = R) R 36 (.int .i64 (nb y12)) rfl) hRne
  have hM2 := hM.out.set_to_ (nb y12)
  clear hRd hFr hM
  generalize (w12.setCell ⟨R, 36, none⟩ (.int .i64 (nb y12))) = w13 at hRd2 hFr2 ⊢
  obtain ⟨CS13, hCS2⟩ : ∃ x, x = setRange CS11 34 [.int .i64 (nb y12)] := ⟨_, rfl⟩
  rw [← hCS2] at hRd2 hM2
  clear hCS2 CS11
  have l1 := hRd2.c1
  have hRd := Lib.hid hRd2
  have hFr := Lib.hid hFr2
  have hM := Lib.hid hM2
  clear hRd2 hFr2 hM2
  replace hdr := hdr.out
  rw [hkd] at hdr
  unfold restF at hdr
  rw [if_neg (by decide), if_neg (by decide), if_neg (by decide), if_neg (by decide), if_neg (by decide)] at hdr
  replace hdr := Lib.hid hdr
  have l0 := hRd.out.c0
  by_cases hT : ¬ (44 = Q)
  · have hP := Lib.hid (tailF_bad hdr.out (by rw [hpl]; exact hT))
    clear hdr
    have hq3 : w.heap.size + 2 ≤ w13.drew.heap.size := Nat.le_trans hRne (Nat.le_of_lt hRd.out.lt)
    have hFr2 : FrD w w13.drew := hFr.out.on (Below.refl _ _).drew
    clear hRd hM hFr
    go_wp2_with fail
    go_still_tail 14, (by kernel_rfl)
    change wpList _ _ _ _ _ w13.drew
    generalize w13.drew = w14 at hFr2 hq3 ⊢
    clear l0 l1
    have hFr := Lib.hid hFr2
    clear hFr2
    go_wp2_with fail
    refine (need_no kTail 44 104 _ _ (decide_eq_false (by omega))).mono ?_
    rintro e w15 ⟨q, rfl, hq, hF, hBn⟩
    replace hFr := hFr.out.on hBn
    have hq2 : w.heap.size + 2 ≤ q := Nat.le_trans hq3 hq
    replace hF := Lib.hid hF
    clear hBn hq hq3
    obtain ⟨hZ3, hE3, hB33⟩ := hFr
    have ce : w15.cell? ⟨w.heap.size + 1, 0, none⟩ = some .nilIface := cell_of hE3 rfl
    have cf : w15.frozen? ⟨w.heap.size + 1, 0, none⟩ = false := free_of hE3
    replace hE3 := Lib.hid hE3
    replace hZ3 := Lib.hid hZ3
    replace hB33 := Lib.hid hB33
    go_wp2_with fail
    have hEf := cell_of (heap_set (o := 0) hE3.out (errOf q)) (off := 0) rfl
    have hKf : Keep (fun k => k = w.heap.size + 1) w15 (w15.setCell ⟨w.heap.size + 1, 0, none⟩ (errOf q)) := Keep.set (fun k => k = w.heap.size + 1) _ _ _ rfl
    have hZf := hKf.heap (show ¬ w.heap.size = w.heap.size + 1 by omega) hZ3.out
    have hFf := hKf.heap (show ¬ q = w.heap.size + 1 by omega) hF.out
    have hBf := below_keep hB33.out hKf (fun i e => by omega) hB33.out.size
    have hif : (Tryd.prog.info? 36).map (·.size) = some Tryd.zeroCells36.size := by kernel_rfl
    have hL := run_loadVar_row (P := Tryd.prog) _ w.heap.size 36 36 _ (0, 0) _ hZf Tryd.underlying36 rfl hif
    have hL2 : (loadVar 38 ⟨w.heap.size + 1, 0, none⟩).run Tryd.prog (w15.setCell ⟨w.heap.size + 1, 0, none⟩ (errOf q)) = .ok (errOf q) (w15.setCell ⟨w.heap.size + 1, 0, none⟩ (errOf q)) := by simp [go_sem, hEf]
    refine leaves_cons (f := 36) (args := #[.pointer (some ⟨w.heap.size + 1, 0, none⟩)]) (by simp) (by simp [go_sem]) ?_
    refine (caught_panicking ⟨w.heap.size + 1, 0, none⟩ q .nilIface [] _ ce cf).mono ?_
    rintro e u' w'' ⟨rfl, rfl, rfl⟩
    exact ⟨_, results_cell2 rfl _ _ ⟨w.heap.size, 0, none⟩ ⟨w.heap.size + 1, 0, none⟩ (.agg Tryd.zeroCells36) (errOf q) rfl rfl hL hL2, DecPost.bad hP.out ⟨q, rfl, hFf, hBf⟩⟩

  rw [Classical.not_not] at hT
  have hP := Lib.hid (tailF_ok hdr.out (by rw [hpl]; exact hT))
  clear hdr
  subst hT
  go_wp2_with fail
  go_quiet ((go_at_call 38; exact Calls.quiet_of_same (need_same _ _ _ _)))
  replace hRd := Lib.hid (hRd.out.drewN nq)
  replace hFr := hFr.out.on (below_drewN (Below.refl _ _) nq)
  clear l0 l1
  generalize w13.drewN nq = w14 at hRd hFr ⊢
  obtain ⟨hZq, hEq, hBq⟩ := hFr
  go_upto_region 28 with fail
  have hrng : ∀ j v, CS13[j]? = some v → w14.cell? ⟨R, 2 + j, none⟩ = some v := fun j v h => hRd.out.c2 h _ rfl
  have hif : (Tryd.prog.info? 36).map (·.size) = some CS13.size := by rw [hM.out.size]; kernel_rfl
  have hz36 : Tryd.zeroCells36.size = CS13.size := by rw [hM.out.size]; exact zC_size
  have hone : CS13.all (·.oneCell') = true := hM.out.one rfl rfl
  have hsW := setRow_keep w14 w.heap.size CS13
  have hE18 := hsW.heap (show ¬ w.heap.size + 1 = w.heap.size by omega) hEq
  have hD18 := setRow_heap w14 w.heap.size _ CS13 _ _ hZq
  have hB18 := below_keep hBq hsW (fun i e => by omega) hBq.size
  have ge1 : (w14.setRow w.heap.size CS13).cell? ⟨w.heap.size + 1, 0, none⟩ = some .nilIface := cell_of hE18 rfl
  have gf1 : (w14.setRow w.heap.size CS13).frozen? ⟨w.heap.size + 1, 0, none⟩ = false := free_of hE18
  replace hrng := Lib.hid hrng
  replace hD18 := Lib.hid hD18
  replace hB18 := Lib.hid hB18
  replace hE18 := Lib.hid hE18
  replace hZq := Lib.hid hZq
  clear hEq hBq hsW hRd
  go_wp2_with (first | (refine wpList_loadM _ rfl _ _ rfl R 2 rfl CS13 hrng.out _ Tryd.underlying36 rfl hif ?_) | (refine wpList_storeW _ rfl _ _ _ rfl w.heap.size CS13 rfl rfl _ _ hZq.out hif hz36 hone ?_))
  have hKz : Keep (fun k => k = w.heap.size + 1) (w14.setRow w.heap.size CS13) ((w14.setRow w.heap.size CS13).setCell ⟨w.heap.size + 1, 0, none⟩ .nilIface) := Keep.set _ (w.heap.size + 1) 0 .nilIface rfl
  have hDz := hKz.heap (show ¬ w.heap.size = w.heap.size + 1 by omega) hD18.out
  have hEz : ((w14.setRow w.heap.size CS13).setCell ⟨w.heap.size + 1, 0, none⟩ .nilIface).cell? ⟨w.heap.size + 1, 0, none⟩ = some .nilIface := cell_of (heap_set hE18.out _) rfl
  have hBz := hB18.out.setCell (p := ⟨w.heap.size + 1, 0, none⟩) (Nat.le_succ _) .nilIface
  generalize (w14.setRow w.heap.size CS13).setCell ⟨w.heap.size + 1, 0, none⟩ .nilIface = wf at *
  have hL := run_loadVar_row (P := Tryd.prog) wf w.heap.size 36 36 CS13 (0, 0) _ hDz Tryd.underlying36 rfl hif
  have hL2 : (loadVar 38 ⟨w.heap.size + 1, 0, none⟩).run Tryd.prog wf = .ok .nilIface wf := by simp [go_sem, hEz]
  refine leaves_cons (f := 36) (args := #[.pointer (some ⟨w.heap.size + 1, 0, none⟩)]) (by simp) (by simp [go_sem]) ?_
  refine (caught_idle ⟨w.heap.size + 1, 0, none⟩ _).mono ?_
  rintro e u' w'' ⟨rfl, rfl, rfl⟩
  clear hDz
  exact ⟨_, results_cell2 rfl _ _ ⟨w.heap.size, 0, none⟩ ⟨w.heap.size + 1, 0, none⟩ (.agg CS13) .nilIface rfl rfl hL hL2, DecPost.ok hP.out ⟨CS13, none, 0, none, 0, rfl, hM.out, OwnP.nil _ _, OwnB.nil _ _, PairsOk.nil, hBz⟩⟩

set_option maxHeartbeats 16000000 in
theorem decode_k2 (b o c : Nat) (kd : UInt8) (body s4 : List UInt8) (w : World) (N L Q : Nat) (hk1 : 1 ≤ nb kd) (hk6 : nb kd ≤ 6) (hN : body.length = N) (hNm : N ≤ 1065189) (h4 : s4.length = 4) (hLd : 14 + N = L) (hQd : 10 + N = Q) (hc : L ≤ c) (hlt : b < w.heap.size) (hkd : nb kd = 2) (hsum4 : s4 = (sha (preL kd body)).take 4) (hb : Bs w (some ⟨b, o, none⟩) (preL kd body ++ s4)) (dr : DR) (hdr : bodyF kd (preL kd body) = dr) :
    Calls Tryd.prog 11 #[.slice (some ⟨b, o, none⟩) L c] w (DecPost w dr) := by
  have hpl : (preL kd body).length = Q := by rw [preL_len]; omega
  unfold bodyF at hdr
  replace hdr := Lib.hid hdr
  replace hb := Lib.hid hb
  go_enter_defers Tryd.func11, Tryd.ntmps11
  go_upto_region 2 with fail
  have hZ : ((w.alloc (.cells Tryd.zeroCells36 36)).alloc (.cells #[.nilIface] 38)).heap[w.heap.size]? = some (.cells Tryd.zeroCells36 36 (0, 0)) := by
    rw [heap_alloc?, if_neg (by simp)]; exact heap_alloc_new w _
  have hE : ((w.alloc (.cells Tryd.zeroCells36 36)).alloc (.cells #[.nilIface] 38)).heap[w.heap.size + 1]? = some (.cells #[.nilIface] 38 (0, 0)) := by
    rw [heap_alloc?, if_pos (by simp)]
  have hB : Below w.heap.size w ((w.alloc (.cells Tryd.zeroCells36 36)).alloc (.cells #[.nilIface] 38)) := later (boxed _ _) (boxed _ _)
  have hsz : ((w.alloc (.cells Tryd.zeroCells36 36)).alloc (.cells #[.nilIface] 38)).heap.size = w.heap.size + 2 := by simp
  generalize ((w.alloc (.cells Tryd.zeroCells36 36)).alloc (.cells #[.nilIface] 38)) = w1 at hZ hE hB hsz ⊢
  have hb1 := hb.out.on hB
  replace hZ := Lib.hid hZ
  replace hE := Lib.hid hE
  go_wp2_with fail
  have hpk := peek_frame b o c kd body s4 w1 N L hk1 hk6 hN hNm h4 hLd hc hb1
  rw [hkd] at hpk
  refine hpk.mono ?_
  rintro e w2 ⟨rfl, md, hw2⟩
  have hb2 : Bs w2 (some ⟨b, o, none⟩) (preL kd body ++ s4) := by rw [hw2]; exact hb1
  have hB2 : Below w.heap.size w w2 := by rw [hw2]; exact below_drewN hB md
  have hs2 : w2.heap.size = w.heap.size + 2 := by rw [hw2]; exact hsz
  have hZ2 : w2.heap[w.heap.size]? = some (.cells Tryd.zeroCells36 36 (0, 0)) := by rw [hw2]; exact hZ.out
  have hE2 : w2.heap[w.heap.size + 1]? = some (.cells #[.nilIface] 38 (0, 0)) := by rw [hw2]; exact hE.out
  have hbp : Bs w2 (some ⟨b, o, none⟩) (preL kd body) := by
    have h := hb2.take Q
    rw [List.take_append_of_le_length (by omega), List.take_of_length_le (by omega)] at h
    exact h
  replace hZ2 := Lib.hid hZ2
  replace hE2 := Lib.hid hE2
  replace hb2 := Lib.hid hb2
  replace hbp := Lib.hid hbp
  replace hB2 := Lib.hid hB2
  have hcQ : (Q : Int) ≤ (c : Int) := by omega
  have hcL : (L : Int) ≤ (c : Int) := by omega
  have hwQ : wrap64 ((L : Int) - 4) = (Q : Int) := by rw [IntWalk.wrap64_in _ ⟨by omega, by omega⟩]; omega
  have hq0 : (0 : Int) ≤ (Q : Int) := by omega
  have hL4 : L - 4 = Q := by omega
  have hL4i : (L : Int) - 4 = (Q : Int) := by omega
  clear hpk hw2 hZ hE hB hsz hb1 hb
  go_wp2_with fail
  refine (need_same _ _ _ _).mono ?_
  rintro e w' ⟨rfl, rfl⟩
  go_wp2_with fail
  refine (need_same _ _ _ _).mono ?_
  rintro e w2 ⟨rfl, rfl⟩
  go_wp2_with fail
  have hsum := sum1_any b o c (preL kd body) w2 (by omega) (by omega) hbp.out (by omega)
  rw [hpl] at hsum
  refine hsum.mono ?_
  rintro e w3 ⟨rfl, hB3⟩
  clear hsum
  rename_i hK
  have hs3 := hB3.size
  have hD := sha_length (preL kd body)
  have hb3 := hb2.out.on hB3
  have hfx : ∀ i, i < 4 → (preL kd body ++ s4).getD (Q + i) 0 = s4.getD i 0 := fun i hi => by
    rw [List.getD_eq_getElem?_getD, List.getElem?_append_right (by omega), hpl, show Q + i - Q = i from by omega, ← List.getD_eq_getElem?_getD]
  have hcl := fun i (hi : i < 4) => hb3.at (Q + i) (by simp [h4]; omega)
  have x0 : w3.cell? ⟨b, o + Q, none⟩ = some (B8 (s4.getD 0 0)) := by rw [← hfx 0 (by omega)]; exact hcl 0 (by omega)
  have x1 : w3.cell? ⟨b, o + Q + 1, none⟩ = some (B8 (s4.getD 1 0)) := by rw [← hfx 1 (by omega)]; exact hcl 1 (by omega)
  have x2 : w3.cell? ⟨b, o + Q + 2, none⟩ = some (B8 (s4.getD 2 0)) := by rw [← hfx 2 (by omega)]; exact hcl 2 (by omega)
  have x3 : w3.cell? ⟨b, o + Q + 3, none⟩ = some (B8 (s4.getD 3 0)) := by rw [← hfx 3 (by omega)]; exact hcl 3 (by omega)
  have hsz : ((sha (preL kd body)).map B8).toArray.size = 64 := by rw [List.size_toArray, List.length_map, hD]
  have hone : ((sha (preL kd body)).map B8).toArray.all (·.oneCell') = true := all_oneCell_toArray one_bytes
  have hget : ∀ i, i < 64 → ((sha (preL kd body)).map B8).toArray[i]? = some (B8 ((sha (preL kd body)).getD i 0)) := fun i hi => by
    rw [List.getElem?_toArray, List.getElem?_map, List.getD_eq_getElem?_getD, List.getElem?_eq_getElem (show i < (sha (preL kd body)).length by omega)]
    rfl
  clear hfx hcl hbp hb2
  replace hb3 := Lib.hid hb3
  have hZ3 := Lib.hid (heap_on hB3 hZ2.out)
  have hE3 := Lib.hid (heap_on hB3 hE2.out)
  have hB33 := Lib.hid (later' hB2.out hB3)
  clear hZ2 hE2 hB2 hB3
  refine hK _ _ ?_
  clear hK
  generalize ((sha (preL kd body)).map B8).toArray = DA at hsz hone hget ⊢
  generalize (sha (preL kd body)) = S at hget hD hsum4
  have hif : (Tryd.prog.info? 97).map (·.size) = some DA.size := by rw [hsz]; kernel_rfl
  refine wpList_value (w' := w3.alloc (.cells z64 97)) rfl (.pointer (some ⟨w3.heap.size, 0, none⟩)) (by kernel_rfl) ?_
  refine wpList_skips (w' := w3.alloc (.cells DA 97)) rfl ?_ ?_
  · have h := run_storeAt_new (P := Tryd.prog) w3 97 z64 DA hif (by rw [hsz]; rfl) hone
    show (Instr.storeAt 97 (.pointer (some ⟨w3.heap.size, 0, none⟩)) (.agg DA) >>= fun _ => pure Next.skip : Sem Next).run Tryd.prog _ = _
    simp only [Sem.run_bind, h, Result.andThen, Sem.run_pure]
  refine wpList_nil ?_
  simp only [Act.put]
  have hDn := heap_alloc_new w3 (.cells DA 97)
  have hB34 := boxed w3 (.cells DA 97)
  have y0 : (w3.alloc (.cells DA 97)).cell? ⟨w3.heap.size, 0, none⟩ = some (B8 (S.getD 0 0)) := cell_of hDn (hget 0 (by omega))
  have y1 : (w3.alloc (.cells DA 97)).cell? ⟨w3.heap.size, 1, none⟩ = some (B8 (S.getD 1 0)) := cell_of hDn (hget 1 (by omega))
  have y2 : (w3.alloc (.cells DA 97)).cell? ⟨w3.heap.size, 2, none⟩ = some (B8 (S.getD 2 0)) := cell_of hDn (hget 2 (by omega))
  have y3 : (w3.alloc (.cells DA 97)).cell? ⟨w3.heap.size, 3, none⟩ = some (B8 (S.getD 3 0)) := cell_of hDn (hget 3 (by omega))
  replace x0 := cell_on hB34 x0
  replace x1 := cell_on hB34 x1
  replace x2 := cell_on hB34 x2
  replace x3 := cell_on hB34 x3
  have hb4 := Lib.hid (hb3.out.on hB34)
  have hZ4 := Lib.hid (heap_on hB34 hZ3.out)
  have hE4 := Lib.hid (heap_on hB34 hE3.out)
  have hB44 := Lib.hid (later' hB33.out hB34)
  have hs4 : (w3.alloc (.cells DA 97)).heap.size = w3.heap.size + 1 := by simp
  clear hDn hB34 hget hone hif hsz hZ3 hE3 hB33 hb3
  generalize w3.alloc (.cells DA 97) = w4 at *
  have hqq : ∀ i, i < 4 → s4.getD i 0 = S.getD i 0 := fun i hi => by rw [hsum4, getD_take _ hi]
  rw [hqq 0 (by omega)] at x0
  rw [hqq 1 (by omega)] at x1
  rw [hqq 2 (by omega)] at x2
  rw [hqq 3 (by omega)] at x3
  clear hqq hD
  clear hsum4
  generalize S.getD 0 0 = q0 at *
  generalize S.getD 1 0 = q1 at *
  generalize S.getD 2 0 = q2 at *
  generalize S.getD 3 0 = q3 at *
  have ha4 := arrAt4
  have he4 := eql4_same q0 q1 q2 q3
  have hc1 : ¬ (c = Q) := by omega
  have hwQ2 : IntKind.i64.wrap (Q : Int) = (Q : Int) := by rw [IntKind.wrap_i64]; omega
  have hc2 : (4 : Int) ≤ ((c - Q : Nat) : Int) := by omega
  have hLQ : L - Q = 4 := by omega
  have hQL : (Q : Int) ≤ (L : Int) := by omega
  go_wp2_with fail
  go_quiet ((go_at_call 38; exact Calls.quiet_of_same (need_same _ _ _ _)))
  have hb5 : Bs (w4.drewN nq) (some ⟨b, o, none⟩) (preL kd body) := by
    have h := (Bs.drewN hb4.out nq).take Q
    rw [List.take_append_of_le_length (by omega), List.take_of_length_le (by omega)] at h
    exact h
  have hFr5 : FrD w (w4.drewN nq) := ⟨hZ4.out, hE4.out, below_drewN hB44.out nq⟩
  have hs5 : w.heap.size + 2 ≤ (w4.drewN nq).heap.size := by simp only [World.heap_drewN]; omega
  clear hb4 hZ4 hE4 hB44 hs4 x0 x1 x2 x3 y0 y1 y2 y3 he4 ha4
  generalize w4.drewN nq = w5 at hb5 hFr5 hs5 ⊢
  replace hb5 := Lib.hid hb5
  replace hFr5 := Lib.hid hFr5
  go_upto_region 8 with fail
  have hRd := RdM.made w5 b o Q c (preL kd body) hb5.out hpl (by omega) (by omega) (by omega) (by omega)
  have hFr := hFr5.out.on (boxed w5 (.cells ((Tryd.zeroCells107.setIfInBounds 0 (.slice (some ⟨b, o, none⟩) Q c)).setIfInBounds 1 (.int .i64 10)) 107))
  have hR2 : w.heap.size + 2 ≤ w5.heap.size := hs5
  clear hb5 hFr5 hs5 hcQ hcL hwQ hq0 hL4 hL4i hwQ2 hc2 hLQ hQL hc1
  generalize hRe : w5.heap.size = R at hRd hR2 ⊢
  generalize w5.alloc (.cells ((Tryd.zeroCells107.setIfInBounds 0 (.slice (some ⟨b, o, none⟩) Q c)).setIfInBounds 1 (.int .i64 10)) 107) = w6 at hRd hFr ⊢
  have hRne : w.heap.size + 2 ≤ R := hR2
  have hM := Lib.hid zC_msg
  obtain ⟨CS0, hCS⟩ : ∃ x, x = Tryd.zeroCells36 := ⟨_, rfl⟩
  rw [← hCS] at hRd hM
  clear hCS
  have l2 := hRd.c2 hM.out.kind 2 rfl
  have lf := hRd.free 2
  replace hRd := Lib.hid hRd
  replace hFr := Lib.hid hFr
  go_upto_region 9 with fail
  clear l2 lf
  have hRd2 := hRd.out.set1 0 (.int .i64 2) 2 rfl
  have hFr2 := hFr.out.keepR (Keep.set (fun k => k = R) R 2 (.int .i64 2) rfl) hRne
  have hM2 := hM.out.set_kind 2
  clear hRd hFr hM
  generalize (w6.setCell ⟨R, 2, none⟩ (.int .i64 2)) = w7 at hRd2 hFr2 ⊢
  obtain ⟨CS7, hCS2⟩ : ∃ x, x = setRange CS0 0 [.int .i64 2] := ⟨_, rfl⟩
  rw [← hCS2] at hRd2 hM2
  clear hCS2 CS0
  have l1 := hRd2.c1
  have hRd := Lib.hid hRd2
  have hFr := Lib.hid hFr2
  have hM := Lib.hid hM2
  clear hRd2 hFr2 hM2
  go_wp2_with fail
  by_cases hltw7 : Q < 10 + 32
  · have hP := Lib.hid (takeF_bad hdr.out (by rw [hpl]; exact hltw7))
    clear hdr
    refine (take_rd_short hRd.out 32 kSession _ hltw7 (by omega)).mono ?_
    rintro e w8 ⟨q, rfl, hq, hF, hK⟩
    have hFr := hFr.out.keepR hK hRne
    have hq2 : w.heap.size + 2 ≤ q := Nat.le_trans (Nat.le_trans hRne (Nat.le_of_lt hRd.out.lt)) hq
    replace hF := Lib.hid hF
    clear hRd hM hK hq
    obtain ⟨hZ3, hE3, hB33⟩ := hFr
    have ce : w8.cell? ⟨w.heap.size + 1, 0, none⟩ = some .nilIface := cell_of hE3 rfl
    have cf : w8.frozen? ⟨w.heap.size + 1, 0, none⟩ = false := free_of hE3
    replace hE3 := Lib.hid hE3
    replace hZ3 := Lib.hid hZ3
    replace hB33 := Lib.hid hB33
    go_wp2_with fail
    have hEf := cell_of (heap_set (o := 0) hE3.out (errOf q)) (off := 0) rfl
    have hKf : Keep (fun k => k = w.heap.size + 1) w8 (w8.setCell ⟨w.heap.size + 1, 0, none⟩ (errOf q)) := Keep.set (fun k => k = w.heap.size + 1) _ _ _ rfl
    have hZf := hKf.heap (show ¬ w.heap.size = w.heap.size + 1 by omega) hZ3.out
    have hFf := hKf.heap (show ¬ q = w.heap.size + 1 by omega) hF.out
    have hBf := below_keep hB33.out hKf (fun i e => by omega) hB33.out.size
    have hif : (Tryd.prog.info? 36).map (·.size) = some Tryd.zeroCells36.size := by kernel_rfl
    have hL := run_loadVar_row (P := Tryd.prog) _ w.heap.size 36 36 _ (0, 0) _ hZf Tryd.underlying36 rfl hif
    have hL2 : (loadVar 38 ⟨w.heap.size + 1, 0, none⟩).run Tryd.prog (w8.setCell ⟨w.heap.size + 1, 0, none⟩ (errOf q)) = .ok (errOf q) (w8.setCell ⟨w.heap.size + 1, 0, none⟩ (errOf q)) := by simp [go_sem, hEf]
    refine leaves_cons (f := 36) (args := #[.pointer (some ⟨w.heap.size + 1, 0, none⟩)]) (by simp) (by simp [go_sem]) ?_
    refine (caught_panicking ⟨w.heap.size + 1, 0, none⟩ q .nilIface [] _ ce cf).mono ?_
    rintro e u' w'' ⟨rfl, rfl, rfl⟩
    exact ⟨_, results_cell2 rfl _ _ ⟨w.heap.size, 0, none⟩ ⟨w.heap.size + 1, 0, none⟩ (.agg Tryd.zeroCells36) (errOf q) rfl rfl hL hL2, DecPost.bad hP.out ⟨q, rfl, hFf, hBf⟩⟩

  replace hdr := Lib.hid (takeF_ok hdr.out (by rw [hpl]; omega))
  refine (take_rd hRd.out 32 _ _ (by omega)).mono ?_
  rintro e w8 ⟨rfl, hRd2, hK⟩
  replace hFr := Lib.hid (hFr.out.keepR hK hRne)
  replace hRd : Hid (RdM w8 R b o Q c 42 (preL kd body) CS7) := Lib.hid hRd2
  have hsl := segL_len (l := preL kd body) (at_ := 10) (n := 32) (by rw [hpl]; omega)
  clear hRd2 hK l1
  have hss := hRd.out.seg 10 32
  obtain ⟨sg, hsgd⟩ : ∃ x, x = segL (preL kd body) 10 32 := ⟨_, rfl⟩
  rw [← hsgd] at hss hsl hdr
  clear hsgd
  rename_i hK
  refine hK _ _ ?_
  clear hK
  refine wpList_value (w' := w8) rfl (.pointer (some ⟨b, o + 10, none⟩)) (by
    show (Instr.arrayAt 26 (.slice (some ⟨b, o + 10, none⟩) 32 (c - 10)) >>= fun v => pure (Next.value v) : Sem Next).run Tryd.prog w8 = _
    simp only [Sem.run_bind, arrAt32, Result.andThen, Sem.run_pure]) ?_
  have hif : (Tryd.prog.info? 26).map (·.size) = some (sg.map B8).length := by rw [List.length_map, hsl]; kernel_rfl
  refine wpList_load_mid rfl _ _ rfl b (o + 10) rfl (sg.map B8) _ hss.range Tryd.underlying26 rfl hif ?_
  have hif2 : (Tryd.prog.info? 26).map (·.size) = some (sg.map B8).toArray.size := by rw [List.size_toArray]; exact hif
  have hone : (sg.map B8).toArray.all (·.oneCell') = true := all_oneCell_toArray one_bytes
  have hsL : (sg.map B8).toArray.toList = sg.map B8 := rfl
  have hssz : (sg.map B8).toArray.size = 32 := by simp [hsl]
  generalize (sg.map B8).toArray = SA at hif2 hone hsL hssz ⊢
  have hth := hRd.out.there 3 SA.size (by rw [hM.out.size, hssz]; omega)
  clear hss hif
  go_upto_region 10 with (refine wpList_store_mid rfl _ _ _ rfl R 3 SA rfl rfl hth hif2 hone ?_)
  try rw [hsL]
  clear hth hif2 hone hsL hssz
  have hRd2 := hRd.out.setN 1 (sg.map B8) 3 rfl
  have hFr2 := hFr.out.keepR (setCells_keep w8 R 3 (sg.map B8)) hRne
  have hM2 := hM.out.set_session sg hsl
  clear hRd hFr hM
  generalize (w8.setCells R 3 (sg.map B8)) = w9 at hRd2 hFr2 ⊢
  obtain ⟨CS9, hCS2⟩ : ∃ x, x = setRange CS7 1 (sg.map B8) := ⟨_, rfl⟩
  rw [← hCS2] at hRd2 hM2
  clear hCS2 CS7
  have l1 := hRd2.c1
  have hRd := Lib.hid hRd2
  have hFr := Lib.hid hFr2
  have hM := Lib.hid hM2
  clear hRd2 hFr2 hM2
  go_wp2_with fail
  by_cases hltw9 : Q < 42 + 1
  · have hP := Lib.hid (takeF_bad hdr.out (by rw [hpl]; exact hltw9))
    clear hdr
    refine (take_rd_short hRd.out 1 kFrom _ hltw9 (by omega)).mono ?_
    rintro e w10 ⟨q, rfl, hq, hF, hK⟩
    have hFr := hFr.out.keepR hK hRne
    have hq2 : w.heap.size + 2 ≤ q := Nat.le_trans (Nat.le_trans hRne (Nat.le_of_lt hRd.out.lt)) hq
    replace hF := Lib.hid hF
    clear hRd hM hK hq
    obtain ⟨hZ3, hE3, hB33⟩ := hFr
    have ce : w10.cell? ⟨w.heap.size + 1, 0, none⟩ = some .nilIface := cell_of hE3 rfl
    have cf : w10.frozen? ⟨w.heap.size + 1, 0, none⟩ = false := free_of hE3
    replace hE3 := Lib.hid hE3
    replace hZ3 := Lib.hid hZ3
    replace hB33 := Lib.hid hB33
    go_wp2_with fail
    have hEf := cell_of (heap_set (o := 0) hE3.out (errOf q)) (off := 0) rfl
    have hKf : Keep (fun k => k = w.heap.size + 1) w10 (w10.setCell ⟨w.heap.size + 1, 0, none⟩ (errOf q)) := Keep.set (fun k => k = w.heap.size + 1) _ _ _ rfl
    have hZf := hKf.heap (show ¬ w.heap.size = w.heap.size + 1 by omega) hZ3.out
    have hFf := hKf.heap (show ¬ q = w.heap.size + 1 by omega) hF.out
    have hBf := below_keep hB33.out hKf (fun i e => by omega) hB33.out.size
    have hif : (Tryd.prog.info? 36).map (·.size) = some Tryd.zeroCells36.size := by kernel_rfl
    have hL := run_loadVar_row (P := Tryd.prog) _ w.heap.size 36 36 _ (0, 0) _ hZf Tryd.underlying36 rfl hif
    have hL2 : (loadVar 38 ⟨w.heap.size + 1, 0, none⟩).run Tryd.prog (w10.setCell ⟨w.heap.size + 1, 0, none⟩ (errOf q)) = .ok (errOf q) (w10.setCell ⟨w.heap.size + 1, 0, none⟩ (errOf q)) := by simp [go_sem, hEf]
    refine leaves_cons (f := 36) (args := #[.pointer (some ⟨w.heap.size + 1, 0, none⟩)]) (by simp) (by simp [go_sem]) ?_
    refine (caught_panicking ⟨w.heap.size + 1, 0, none⟩ q .nilIface [] _ ce cf).mono ?_
    rintro e u' w'' ⟨rfl, rfl, rfl⟩
    exact ⟨_, results_cell2 rfl _ _ ⟨w.heap.size, 0, none⟩ ⟨w.heap.size + 1, 0, none⟩ (.agg Tryd.zeroCells36) (errOf q) rfl rfl hL hL2, DecPost.bad hP.out ⟨q, rfl, hFf, hBf⟩⟩

  replace hdr := Lib.hid (takeF_ok hdr.out (by rw [hpl]; omega))
  refine (take_rd hRd.out 1 _ _ (by omega)).mono ?_
  rintro e w10 ⟨rfl, hRd2, hK⟩
  replace hFr := Lib.hid (hFr.out.keepR hK hRne)
  replace hRd : Hid (RdM w10 R b o Q c 43 (preL kd body) CS9) := Lib.hid hRd2
  have hsl := segL_len (l := preL kd body) (at_ := 42) (n := 1) (by rw [hpl]; omega)
  clear hRd2 hK l1
  have x0 := hRd.out.cell (j := 42) (by omega) (o + 42) rfl
  have e0 : (segL (preL kd body) 42 1).getD 0 0 = (preL kd body).getD 42 0 := segL_getD _ _ _ 0 (by decide)
  rw [e0] at hdr
  generalize (preL kd body).getD 42 0 = y10 at x0 hdr
  clear hsl e0
  have m0 := hRd.out.c2 hM.out.from_ 35 rfl
  have mf := hRd.out.free 35
  have hwf : IntKind.i64.wrap (nb y10) = nb y10 := by have := nb_bd y10; rw [IntKind.wrap_i64]; omega
  have hwf2 : wrap64 (nb y10) = nb y10 := by have := nb_bd y10; exact IntWalk.wrap64_in _ ⟨by omega, by omega⟩
  go_upto_region 11 with fail
  clear x0 m0 mf hwf hwf2
  have hRd2 := hRd.out.set1 33 (.int .i64 (nb y10)) 35 rfl
  have hFr2 := hFr.out.keepR (Keep.set (fun k => k = R) R 35 (.int .i64 (nb y10)) rfl) hRne
  have hM2 := hM.out.set_from_ (nb y10)
  clear hRd hFr hM
  generalize (w10.setCell ⟨R, 35, none⟩ (.int .i64 (nb y10))) = w11 at hRd2 hFr2 ⊢
  obtain ⟨CS11, hCS2⟩ : ∃ x, x = setRange CS9 33 [.int .i64 (nb y10)] := ⟨_, rfl⟩
  rw [← hCS2] at hRd2 hM2
  clear hCS2 CS9
  have l1 := hRd2.c1
  have hRd := Lib.hid hRd2
  have hFr := Lib.hid hFr2
  have hM := Lib.hid hM2
  clear hRd2 hFr2 hM2
  go_wp2_with fail
  by_cases hltw11 : Q < 43 + 1
  · have hP := Lib.hid (takeF_bad hdr.out (by rw [hpl]; exact hltw11))
    clear hdr
    refine (take_rd_short hRd.out 1 kTo _ hltw11 (by omega)).mono ?_
    rintro e w12 ⟨q, rfl, hq, hF, hK⟩
    have hFr := hFr.out.keepR hK hRne
    have hq2 : w.heap.size + 2 ≤ q := Nat.le_trans (Nat.le_trans hRne (Nat.le_of_lt hRd.out.lt)) hq
    replace hF := Lib.hid hF
    clear hRd hM hK hq
    obtain ⟨hZ3, hE3, hB33⟩ := hFr
    have ce : w12.cell? ⟨w.heap.size + 1, 0, none⟩ = some .nilIface := cell_of hE3 rfl
    have cf : w12.frozen? ⟨w.heap.size + 1, 0, none⟩ = false := free_of hE3
    replace hE3 := Lib.hid hE3
    replace hZ3 := Lib.hid hZ3
    replace hB33 := Lib.hid hB33
    go_wp2_with fail
    have hEf := cell_of (heap_set (o := 0) hE3.out (errOf q)) (off := 0) rfl
    have hKf : Keep (fun k => k = w.heap.size + 1) w12 (w12.setCell ⟨w.heap.size + 1, 0, none⟩ (errOf q)) := Keep.set (fun k => k = w.heap.size + 1) _ _ _ rfl
    have hZf := hKf.heap (show ¬ w.heap.size = w.heap.size + 1 by omega) hZ3.out
    have hFf := hKf.heap (show ¬ q = w.heap.size + 1 by omega) hF.out
    have hBf := below_keep hB33.out hKf (fun i e => by omega) hB33.out.size
    have hif : (Tryd.prog.info? 36).map (·.size) = some Tryd.zeroCells36.size := by kernel_rfl
    have hL := run_loadVar_row (P := Tryd.prog) _ w.heap.size 36 36 _ (0, 0) _ hZf Tryd.underlying36 rfl hif
    have hL2 : (loadVar 38 ⟨w.heap.size + 1, 0, none⟩).run Tryd.prog (w12.setCell ⟨w.heap.size + 1, 0, none⟩ (errOf q)) = .ok (errOf q) (w12.setCell ⟨w.heap.size + 1, 0, none⟩ (errOf q)) := by simp [go_sem, hEf]
    refine leaves_cons (f := 36) (args := #[.pointer (some ⟨w.heap.size + 1, 0, none⟩)]) (by simp) (by simp [go_sem]) ?_
    refine (caught_panicking ⟨w.heap.size + 1, 0, none⟩ q .nilIface [] _ ce cf).mono ?_
    rintro e u' w'' ⟨rfl, rfl, rfl⟩
    exact ⟨_, results_cell2 rfl _ _ ⟨w.heap.size, 0, none⟩ ⟨w.heap.size + 1, 0, none⟩ (.agg Tryd.zeroCells36) (errOf q) rfl rfl hL hL2, DecPost.bad hP.out ⟨q, rfl, hFf, hBf⟩⟩

  replace hdr := Lib.hid (takeF_ok hdr.out (by rw [hpl]; omega))
  refine (take_rd hRd.out 1 _ _ (by omega)).mono ?_
  rintro e w12 ⟨rfl, hRd2, hK⟩
  replace hFr := Lib.hid (hFr.out.keepR hK hRne)
  replace hRd : Hid (RdM w12 R b o Q c 44 (preL kd body) CS11) := Lib.hid hRd2
  have hsl := segL_len (l := preL kd body) (at_ := 43) (n := 1) (by rw [hpl]; omega)
  clear hRd2 hK l1
  have x0 := hRd.out.cell (j := 43) (by omega) (o + 43) rfl
  have e0 : (segL (preL kd body) 43 1).getD 0 0 = (preL kd body).getD 43 0 := segL_getD _ _ _ 0 (by decide)
  rw [e0] at hdr
  generalize (preL kd body).getD 43 0 = y12 at x0 hdr
  clear hsl e0
  have m0 := hRd.out.c2 hM.out.to_ 36 rfl
  have mf := hRd.out.free 36
  have hwf : IntKind.i64.wrap (nb y12) = nb y12 := by have := nb_bd y12; rw [IntKind.wrap_i64]; omega
  have hwf2 : wrap64 (nb y12) = nb y12 := by have := nb_bd y12; exact IntWalk.wrap64_in _ ⟨by omega, by omega⟩
  go_upto_region 12 with fail
  clear x0 m0 mf hwf hwf2
  have hRd2 := hRd.out.set1 34 (.int .i64 (nb y12)) 36 rfl
  have hFr2 := hFr.out.keepR (Keep.set (fun k => k = R) R 36 (.int .i64 (nb y12)) rfl) hRne
  have hM2 := hM.out.set_to_ (nb y12)
  clear hRd hFr hM
  generalize (w12.setCell ⟨R, 36, none⟩ (.int .i64 (nb y12))) = w13 at hRd2 hFr2 ⊢
  obtain ⟨CS13, hCS2⟩ : ∃ x, x = setRange CS11 34 [.int .i64 (nb y12)] := ⟨_, rfl⟩
  rw [← hCS2] at hRd2 hM2
  clear hCS2 CS11
  have l1 := hRd2.c1
  have hRd := Lib.hid hRd2
  have hFr := Lib.hid hFr2
  have hM := Lib.hid hM2
  clear hRd2 hFr2 hM2
  replace hdr := hdr.out
  rw [hkd] at hdr
  unfold restF at hdr
  rw [if_pos rfl] at hdr
  replace hdr := Lib.hid hdr
  go_wp2_with fail
  by_cases hlt : Q < 44 + 65
  · have hP := Lib.hid (pairF_short hdr.out (by rw [hpl]; exact hlt))
    clear hdr
    refine (pair_short hRd.out hRd.out.lt kPair hlt).mono ?_
    rintro e w14 ⟨q, rfl, hq, hF, hK⟩
    have hFr := hFr.out.keepR hK hRne
    have hq2 : w.heap.size + 2 ≤ q := Nat.le_trans (Nat.le_trans hRne (Nat.le_of_lt hRd.out.lt)) hq
    replace hF := Lib.hid hF
    clear hRd hM hK hq
    obtain ⟨hZ3, hE3, hB33⟩ := hFr
    have ce : w14.cell? ⟨w.heap.size + 1, 0, none⟩ = some .nilIface := cell_of hE3 rfl
    have cf : w14.frozen? ⟨w.heap.size + 1, 0, none⟩ = false := free_of hE3
    replace hE3 := Lib.hid hE3
    replace hZ3 := Lib.hid hZ3
    replace hB33 := Lib.hid hB33
    go_wp2_with fail
    have hEf := cell_of (heap_set (o := 0) hE3.out (errOf q)) (off := 0) rfl
    have hKf : Keep (fun k => k = w.heap.size + 1) w14 (w14.setCell ⟨w.heap.size + 1, 0, none⟩ (errOf q)) := Keep.set (fun k => k = w.heap.size + 1) _ _ _ rfl
    have hZf := hKf.heap (show ¬ w.heap.size = w.heap.size + 1 by omega) hZ3.out
    have hFf := hKf.heap (show ¬ q = w.heap.size + 1 by omega) hF.out
    have hBf := below_keep hB33.out hKf (fun i e => by omega) hB33.out.size
    have hif : (Tryd.prog.info? 36).map (·.size) = some Tryd.zeroCells36.size := by kernel_rfl
    have hL := run_loadVar_row (P := Tryd.prog) _ w.heap.size 36 36 _ (0, 0) _ hZf Tryd.underlying36 rfl hif
    have hL2 : (loadVar 38 ⟨w.heap.size + 1, 0, none⟩).run Tryd.prog (w14.setCell ⟨w.heap.size + 1, 0, none⟩ (errOf q)) = .ok (errOf q) (w14.setCell ⟨w.heap.size + 1, 0, none⟩ (errOf q)) := by simp [go_sem, hEf]
    refine leaves_cons (f := 36) (args := #[.pointer (some ⟨w.heap.size + 1, 0, none⟩)]) (by simp) (by simp [go_sem]) ?_
    refine (caught_panicking ⟨w.heap.size + 1, 0, none⟩ q .nilIface [] _ ce cf).mono ?_
    rintro e u' w'' ⟨rfl, rfl, rfl⟩
    exact ⟨_, results_cell2 rfl _ _ ⟨w.heap.size, 0, none⟩ ⟨w.heap.size + 1, 0, none⟩ (.agg Tryd.zeroCells36) (errOf q) rfl rfl hL hL2, DecPost.bad hP.out ⟨q, rfl, hFf, hBf⟩⟩
  by_cases hz : (preL kd body).getD 44 0 = 0
  · have hP := Lib.hid (pairF_zero hdr.out (by rw [hpl]; omega) hz)
    clear hdr
    refine (pair_zero hRd.out hRd.out.lt kPair (by omega) hz).mono ?_
    rintro e w14 ⟨q, rfl, hq, hF, hK⟩
    have hFr := hFr.out.keepR hK hRne
    have hq2 : w.heap.size + 2 ≤ q := Nat.le_trans (Nat.le_trans hRne (Nat.le_of_lt hRd.out.lt)) hq
    replace hF := Lib.hid hF
    clear hRd hM hK hq
    obtain ⟨hZ3, hE3, hB33⟩ := hFr
    have ce : w14.cell? ⟨w.heap.size + 1, 0, none⟩ = some .nilIface := cell_of hE3 rfl
    have cf : w14.frozen? ⟨w.heap.size + 1, 0, none⟩ = false := free_of hE3
    replace hE3 := Lib.hid hE3
    replace hZ3 := Lib.hid hZ3
    replace hB33 := Lib.hid hB33
    go_wp2_with fail
    have hEf := cell_of (heap_set (o := 0) hE3.out (errOf q)) (off := 0) rfl
    have hKf : Keep (fun k => k = w.heap.size + 1) w14 (w14.setCell ⟨w.heap.size + 1, 0, none⟩ (errOf q)) := Keep.set (fun k => k = w.heap.size + 1) _ _ _ rfl
    have hZf := hKf.heap (show ¬ w.heap.size = w.heap.size + 1 by omega) hZ3.out
    have hFf := hKf.heap (show ¬ q = w.heap.size + 1 by omega) hF.out
    have hBf := below_keep hB33.out hKf (fun i e => by omega) hB33.out.size
    have hif : (Tryd.prog.info? 36).map (·.size) = some Tryd.zeroCells36.size := by kernel_rfl
    have hL := run_loadVar_row (P := Tryd.prog) _ w.heap.size 36 36 _ (0, 0) _ hZf Tryd.underlying36 rfl hif
    have hL2 : (loadVar 38 ⟨w.heap.size + 1, 0, none⟩).run Tryd.prog (w14.setCell ⟨w.heap.size + 1, 0, none⟩ (errOf q)) = .ok (errOf q) (w14.setCell ⟨w.heap.size + 1, 0, none⟩ (errOf q)) := by simp [go_sem, hEf]
    refine leaves_cons (f := 36) (args := #[.pointer (some ⟨w.heap.size + 1, 0, none⟩)]) (by simp) (by simp [go_sem]) ?_
    refine (caught_panicking ⟨w.heap.size + 1, 0, none⟩ q .nilIface [] _ ce cf).mono ?_
    rintro e u' w'' ⟨rfl, rfl, rfl⟩
    exact ⟨_, results_cell2 rfl _ _ ⟨w.heap.size, 0, none⟩ ⟨w.heap.size + 1, 0, none⟩ (.agg Tryd.zeroCells36) (errOf q) rfl rfl hL hL2, DecPost.bad hP.out ⟨q, rfl, hFf, hBf⟩⟩
  replace hdr := Lib.hid (pairF_ok hdr.out (by rw [hpl]; omega) hz)
  refine (pair_rd hRd.out hRd.out.lt _ (by omega) hz).mono ?_
  rintro e w14 ⟨rfl, hRd2, hK⟩
  replace hFr := Lib.hid (hFr.out.keepR hK hRne)
  replace hRd : Hid (RdM w14 R b o Q c 109 (preL kd body) CS13) := Lib.hid hRd2
  have hPO := pairOf_ok (l := segL (preL kd body) 44 65) (segL_len (by rw [hpl]; omega))
  generalize pairOf (segL (preL kd body) 44 65) = pr at hPO hdr ⊢
  have hPs := pairA_size hPO
  have hone := pairA_one pr
  have hif2 : (Tryd.prog.info? 29).map (·.size) = some (pairA pr).size := by rw [hPs]; kernel_rfl
  clear hRd2 hK hz
  try clear l1
  have hth := hRd.out.there 37 (pairA pr).size (by rw [hM.out.size, hPs]; omega)
  go_upto_region 15 with (refine wpList_store_mid rfl _ _ _ rfl R 37 (pairA pr) rfl rfl hth hif2 hone ?_)
  clear hth hif2 hone hPs
  have hRd2 := hRd.out.setN 35 (pairA pr).toList 37 rfl
  have hFr2 := hFr.out.keepR (setCells_keep w14 R 37 (pairA pr).toList) hRne
  have hM2 := hM.out.set_pair pr hPO
  clear hRd hFr hM
  generalize (w14.setCells R 37 (pairA pr).toList) = w15 at hRd2 hFr2 ⊢
  obtain ⟨CS15, hCS2⟩ : ∃ x, x = setRange CS13 35 (pairA pr).toList := ⟨_, rfl⟩
  rw [← hCS2] at hRd2 hM2
  clear hCS2 CS13
  have l1 := hRd2.c1
  have hRd := Lib.hid hRd2
  have hFr := Lib.hid hFr2
  have hM := Lib.hid hM2
  clear hRd2 hFr2 hM2
  have l0 := hRd.out.c0
  by_cases hT : ¬ (109 = Q)
  · have hP := Lib.hid (tailF_bad hdr.out (by rw [hpl]; exact hT))
    clear hdr
    have hq3 : w.heap.size + 2 ≤ w15.drew.heap.size := Nat.le_trans hRne (Nat.le_of_lt hRd.out.lt)
    have hFr2 : FrD w w15.drew := hFr.out.on (Below.refl _ _).drew
    clear hRd hM hFr
    go_wp2_with fail
    go_still_tail 14, (by kernel_rfl)
    change wpList _ _ _ _ _ w15.drew
    generalize w15.drew = w16 at hFr2 hq3 ⊢
    clear l0 l1
    have hFr := Lib.hid hFr2
    clear hFr2
    go_wp2_with fail
    refine (need_no kTail 109 104 _ _ (decide_eq_false (by omega))).mono ?_
    rintro e w17 ⟨q, rfl, hq, hF, hBn⟩
    replace hFr := hFr.out.on hBn
    have hq2 : w.heap.size + 2 ≤ q := Nat.le_trans hq3 hq
    replace hF := Lib.hid hF
    clear hBn hq hq3
    obtain ⟨hZ3, hE3, hB33⟩ := hFr
    have ce : w17.cell? ⟨w.heap.size + 1, 0, none⟩ = some .nilIface := cell_of hE3 rfl
    have cf : w17.frozen? ⟨w.heap.size + 1, 0, none⟩ = false := free_of hE3
    replace hE3 := Lib.hid hE3
    replace hZ3 := Lib.hid hZ3
    replace hB33 := Lib.hid hB33
    go_wp2_with fail
    have hEf := cell_of (heap_set (o := 0) hE3.out (errOf q)) (off := 0) rfl
    have hKf : Keep (fun k => k = w.heap.size + 1) w17 (w17.setCell ⟨w.heap.size + 1, 0, none⟩ (errOf q)) := Keep.set (fun k => k = w.heap.size + 1) _ _ _ rfl
    have hZf := hKf.heap (show ¬ w.heap.size = w.heap.size + 1 by omega) hZ3.out
    have hFf := hKf.heap (show ¬ q = w.heap.size + 1 by omega) hF.out
    have hBf := below_keep hB33.out hKf (fun i e => by omega) hB33.out.size
    have hif : (Tryd.prog.info? 36).map (·.size) = some Tryd.zeroCells36.size := by kernel_rfl
    have hL := run_loadVar_row (P := Tryd.prog) _ w.heap.size 36 36 _ (0, 0) _ hZf Tryd.underlying36 rfl hif
    have hL2 : (loadVar 38 ⟨w.heap.size + 1, 0, none⟩).run Tryd.prog (w17.setCell ⟨w.heap.size + 1, 0, none⟩ (errOf q)) = .ok (errOf q) (w17.setCell ⟨w.heap.size + 1, 0, none⟩ (errOf q)) := by simp [go_sem, hEf]
    refine leaves_cons (f := 36) (args := #[.pointer (some ⟨w.heap.size + 1, 0, none⟩)]) (by simp) (by simp [go_sem]) ?_
    refine (caught_panicking ⟨w.heap.size + 1, 0, none⟩ q .nilIface [] _ ce cf).mono ?_
    rintro e u' w'' ⟨rfl, rfl, rfl⟩
    exact ⟨_, results_cell2 rfl _ _ ⟨w.heap.size, 0, none⟩ ⟨w.heap.size + 1, 0, none⟩ (.agg Tryd.zeroCells36) (errOf q) rfl rfl hL hL2, DecPost.bad hP.out ⟨q, rfl, hFf, hBf⟩⟩

  rw [Classical.not_not] at hT
  have hP := Lib.hid (tailF_ok hdr.out (by rw [hpl]; exact hT))
  clear hdr
  subst hT
  go_wp2_with fail
  go_quiet ((go_at_call 38; exact Calls.quiet_of_same (need_same _ _ _ _)))
  replace hRd := Lib.hid (hRd.out.drewN nq)
  replace hFr := hFr.out.on (below_drewN (Below.refl _ _) nq)
  clear l0 l1
  generalize w15.drewN nq = w16 at hRd hFr ⊢
  obtain ⟨hZq, hEq, hBq⟩ := hFr
  go_upto_region 28 with fail
  have hrng : ∀ j v, CS15[j]? = some v → w16.cell? ⟨R, 2 + j, none⟩ = some v := fun j v h => hRd.out.c2 h _ rfl
  have hif : (Tryd.prog.info? 36).map (·.size) = some CS15.size := by rw [hM.out.size]; kernel_rfl
  have hz36 : Tryd.zeroCells36.size = CS15.size := by rw [hM.out.size]; exact zC_size
  have hone : CS15.all (·.oneCell') = true := hM.out.one rfl rfl
  have hsW := setRow_keep w16 w.heap.size CS15
  have hE18 := hsW.heap (show ¬ w.heap.size + 1 = w.heap.size by omega) hEq
  have hD18 := setRow_heap w16 w.heap.size _ CS15 _ _ hZq
  have hB18 := below_keep hBq hsW (fun i e => by omega) hBq.size
  have ge1 : (w16.setRow w.heap.size CS15).cell? ⟨w.heap.size + 1, 0, none⟩ = some .nilIface := cell_of hE18 rfl
  have gf1 : (w16.setRow w.heap.size CS15).frozen? ⟨w.heap.size + 1, 0, none⟩ = false := free_of hE18
  replace hrng := Lib.hid hrng
  replace hD18 := Lib.hid hD18
  replace hB18 := Lib.hid hB18
  replace hE18 := Lib.hid hE18
  replace hZq := Lib.hid hZq
  clear hEq hBq hsW hRd
  go_wp2_with (first | (refine wpList_loadM _ rfl _ _ rfl R 2 rfl CS15 hrng.out _ Tryd.underlying36 rfl hif ?_) | (refine wpList_storeW _ rfl _ _ _ rfl w.heap.size CS15 rfl rfl _ _ hZq.out hif hz36 hone ?_))
  have hKz : Keep (fun k => k = w.heap.size + 1) (w16.setRow w.heap.size CS15) ((w16.setRow w.heap.size CS15).setCell ⟨w.heap.size + 1, 0, none⟩ .nilIface) := Keep.set _ (w.heap.size + 1) 0 .nilIface rfl
  have hDz := hKz.heap (show ¬ w.heap.size = w.heap.size + 1 by omega) hD18.out
  have hEz : ((w16.setRow w.heap.size CS15).setCell ⟨w.heap.size + 1, 0, none⟩ .nilIface).cell? ⟨w.heap.size + 1, 0, none⟩ = some .nilIface := cell_of (heap_set hE18.out _) rfl
  have hBz := hB18.out.setCell (p := ⟨w.heap.size + 1, 0, none⟩) (Nat.le_succ _) .nilIface
  generalize (w16.setRow w.heap.size CS15).setCell ⟨w.heap.size + 1, 0, none⟩ .nilIface = wf at *
  have hL := run_loadVar_row (P := Tryd.prog) wf w.heap.size 36 36 CS15 (0, 0) _ hDz Tryd.underlying36 rfl hif
  have hL2 : (loadVar 38 ⟨w.heap.size + 1, 0, none⟩).run Tryd.prog wf = .ok .nilIface wf := by simp [go_sem, hEz]
  refine leaves_cons (f := 36) (args := #[.pointer (some ⟨w.heap.size + 1, 0, none⟩)]) (by simp) (by simp [go_sem]) ?_
  refine (caught_idle ⟨w.heap.size + 1, 0, none⟩ _).mono ?_
  rintro e u' w'' ⟨rfl, rfl, rfl⟩
  clear hDz
  exact ⟨_, results_cell2 rfl _ _ ⟨w.heap.size, 0, none⟩ ⟨w.heap.size + 1, 0, none⟩ (.agg CS15) .nilIface rfl rfl hL hL2, DecPost.ok hP.out ⟨CS15, none, 0, none, 0, rfl, hM.out, OwnP.nil _ _, OwnB.nil _ _, PairsOk.nil, hBz⟩⟩

end Go.Proofs.YtmnmmabhmedioaaDoor
