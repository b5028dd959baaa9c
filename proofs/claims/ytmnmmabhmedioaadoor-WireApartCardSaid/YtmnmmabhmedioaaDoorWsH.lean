/- Wire: a frame whose sum does not fit. (Printed by gen_dec.py sum.) -/
import Derived.Test.YtmnmmabhmedioaaDoorWsG
namespace Go.Proofs.YtmnmmabhmedioaaDoor
open Go.RowKit
set_option linter.unusedVariables false
set_option linter.unusedSimpArgs false
set_option maxRecDepth 100000

theorem preL_len (kd : UInt8) (body : List UInt8) : (preL kd body).length = 10 + body.length := by simp [preL, four]; omega
theorem frame_split (kd : UInt8) (body s4 : List UInt8) : preL kd body ++ s4 = headL kd (four body.length) (body ++ s4) := by simp [preL, headL]
theorem peek_frame (b o c : Nat) (kd : UInt8) (body s4 : List UInt8) (w : World) (N L : Nat) (hk1 : 1 ≤ nb kd) (hk6 : nb kd ≤ 6) (hN : body.length = N) (hNm : N ≤ 1065189) (h4 : s4.length = 4) (hLd : 14 + N = L) (hc : L ≤ c)
    (hb : Bs w (some ⟨b, o, none⟩) (preL kd body ++ s4)) :
    Calls Tryd.prog 37 #[.slice (some ⟨b, o, none⟩) L c] w fun e w' => e = .returned (.tuple #[.int .i64 (nb kd), .int .i64 (L : Int)]) ∧ ∃ m, w' = w.drewN m := by
  rw [frame_split] at hb
  have hn : numL (four body.length) = N := by rw [numL_four _ (by omega), hN]
  have h := peek_ok b o c kd (four body.length) (body ++ s4) w rfl hk1 hk6 (by omega) (by simp; omega) (by simp; omega) hb
  rw [hn, show (body ++ s4).length = N + 4 from by simp [hN, h4], show 10 + (N + 4) = L from by omega] at h
  rw [show (10 : Int) + (N : Int) + 4 = (L : Int) from by omega] at h
  exact h

set_option maxHeartbeats 8000000 in
theorem decode_sumbad (b o c : Nat) (kd : UInt8) (body s4 : List UInt8) (w : World) (N L Q : Nat) (hk1 : 1 ≤ nb kd) (hk6 : nb kd ≤ 6) (hN : body.length = N) (hNm : N ≤ 1065189) (h4 : s4.length = 4) (hLd : 14 + N = L) (hQd : 10 + N = Q) (hc : L ≤ c) (hlt : b < w.heap.size) (hsum4 : s4 ≠ (sha (preL kd body)).take 4)
    (hb : Bs w (some ⟨b, o, none⟩) (preL kd body ++ s4)) :
    Calls Tryd.prog 11 #[.slice (some ⟨b, o, none⟩) L c] w fun e w' => ∃ q, e = .returned (.tuple #[.agg Tryd.zeroCells36, errOf q]) ∧ FaultAt w' q ⟨kSum, (Q : Int), 103⟩ ∧ Below w.heap.size w w' := by
  have hpl : (preL kd body).length = Q := by rw [preL_len]; omega
  replace hb := Lib.hid hb
  go_enter_defers Tryd.func11, Tryd.ntmps11
  go_upto_region 2 with fail
  have hZ : ((w.alloc (.cells Tryd.zeroCells36 36)).alloc (.cells #[.nilIface] 38)).heap[w.heap.size]? = some (.cells Tryd.zeroCells36 36 (0, 0)) := by
    rw [heap_alloc?, if_neg (by simp)]; exact heap_alloc_new w _
  have hE : ((w.alloc (.cells Tryd.zeroCells36 36)).alloc (.cells #[.nilIface] 38)).heap[w.heap.size + 1]? = some (.cells #[.nilIface] 38 (0, 0)) := by
    rw [heap_alloc?, if_pos (by simp)]
  have hB : Below w.heap.size w ((w.alloc (.cells Tryd.zeroCells36 36)).alloc (.cells #[.nilIface] 38)) := later (boxed _ _) (boxed _ _)
  have hsz : ((w.alloc (.cells Tryd.zeroCells36 36)).alloc (.cells #[.nilIface] 38)).heap.size = w.heap.size + 2 := by simp
  generalize ((w.alloc (.cells Tryd.zeroCells36 36)).alloc (.cells #[.nilIface] 38)) = w1 at hZ hE hB hsz ⊢
  have hb1 := hb.out.on hB
  replace hZ := Lib.hid hZ
  replace hE := Lib.hid hE
  go_wp2_with fail
  refine (peek_frame b o c kd body s4 w1 N L hk1 hk6 hN hNm h4 hLd hc hb1).mono ?_
  rintro e w2 ⟨rfl, md, hw2⟩
  have hb2 : Bs w2 (some ⟨b, o, none⟩) (preL kd body ++ s4) := by rw [hw2]; exact hb1
  have hB2 : Below w.heap.size w w2 := by rw [hw2]; exact below_drewN hB md
  have hs2 : w2.heap.size = w.heap.size + 2 := by rw [hw2]; exact hsz
  have hZ2 : w2.heap[w.heap.size]? = some (.cells Tryd.zeroCells36 36 (0, 0)) := by rw [hw2]; exact hZ.out
  have hE2 : w2.heap[w.heap.size + 1]? = some (.cells #[.nilIface] 38 (0, 0)) := by rw [hw2]; exact hE.out
  have hbp : Bs w2 (some ⟨b, o, none⟩) (preL kd body) := by
    have h := hb2.take Q
    rw [List.take_append_of_le_length (by omega), List.take_of_length_le (by omega)] at h
    exact h
  replace hZ2 := Lib.hid hZ2
  replace hE2 := Lib.hid hE2
  replace hb2 := Lib.hid hb2
  replace hbp := Lib.hid hbp
  replace hB2 := Lib.hid hB2
  have hcQ : (Q : Int) ≤ (c : Int) := by omega
  have hcL : (L : Int) ≤ (c : Int) := by omega
  have hwQ : wrap64 ((L : Int) - 4) = (Q : Int) := by rw [IntWalk.wrap64_in _ ⟨by omega, by omega⟩]; omega
  have hq0 : (0 : Int) ≤ (Q : Int) := by omega
  have hL4 : L - 4 = Q := by omega
  have hL4i : (L : Int) - 4 = (Q : Int) := by omega
  clear hw2 hZ hE hB hsz hb1 hb
  go_wp2_with fail
  refine (need_same _ _ _ _).mono ?_
  rintro e w' ⟨rfl, rfl⟩
  go_wp2_with fail
  refine (need_same _ _ _ _).mono ?_
  rintro e w2 ⟨rfl, rfl⟩
  go_wp2_with fail
  have hsum := sum1_any b o c (preL kd body) w2 (by omega) (by omega) hbp.out (by omega)
  rw [hpl] at hsum
  refine hsum.mono ?_
  rintro e w3 ⟨rfl, hB3⟩
  clear hsum
  rename_i hK
  have hs3 := hB3.size
  have hD := sha_length (preL kd body)
  have hb3 := hb2.out.on hB3
  have hfx : ∀ i, i < 4 → (preL kd body ++ s4).getD (Q + i) 0 = s4.getD i 0 := fun i hi => by
    rw [List.getD_eq_getElem?_getD, List.getElem?_append_right (by omega), hpl, show Q + i - Q = i from by omega, ← List.getD_eq_getElem?_getD]
  have hcl := fun i (hi : i < 4) => hb3.at (Q + i) (by simp [h4]; omega)
  have x0 : w3.cell? ⟨b, o + Q, none⟩ = some (B8 (s4.getD 0 0)) := by rw [← hfx 0 (by omega)]; exact hcl 0 (by omega)
  have x1 : w3.cell? ⟨b, o + Q + 1, none⟩ = some (B8 (s4.getD 1 0)) := by rw [← hfx 1 (by omega)]; exact hcl 1 (by omega)
  have x2 : w3.cell? ⟨b, o + Q + 2, none⟩ = some (B8 (s4.getD 2 0)) := by rw [← hfx 2 (by omega)]; exact hcl 2 (by omega)
  have x3 : w3.cell? ⟨b, o + Q + 3, none⟩ = some (B8 (s4.getD 3 0)) := by rw [← hfx 3 (by omega)]; exact hcl 3 (by omega)
  have hsz : ((sha (preL kd body)).map B8).toArray.size = 64 := by rw [List.size_toArray, List.length_map, hD]
  have hone : ((sha (preL kd body)).map B8).toArray.all (·.oneCell') = true := all_oneCell_toArray one_bytes
  have hget : ∀ i, i < 64 → ((sha (preL kd body)).map B8).toArray[i]? = some (B8 ((sha (preL kd body)).getD i 0)) := fun i hi => by
    rw [List.getElem?_toArray, List.getElem?_map, List.getD_eq_getElem?_getD, List.getElem?_eq_getElem (show i < (sha (preL kd body)).length by omega)]
    rfl
  clear hfx hcl hbp hb2
  have hb3 := Lib.hid hb3
  have hZ3 := Lib.hid (heap_on hB3 hZ2.out)
  have hE3 := Lib.hid (heap_on hB3 hE2.out)
  have hB33 := Lib.hid (later' hB2.out hB3)
  clear hZ2 hE2 hB2 hB3
  refine hK _ _ ?_
  clear hK
  generalize ((sha (preL kd body)).map B8).toArray = DA at hsz hone hget ⊢
  generalize (sha (preL kd body)) = S at hget hD hsum4
  have hif : (Tryd.prog.info? 97).map (·.size) = some DA.size := by rw [hsz]; kernel_rfl
  refine wpList_value (w' := w3.alloc (.cells z64 97)) rfl (.pointer (some ⟨w3.heap.size, 0, none⟩)) (by kernel_rfl) ?_
  refine wpList_skips (w' := w3.alloc (.cells DA 97)) rfl ?_ ?_
  · have h := run_storeAt_new (P := Tryd.prog) w3 97 z64 DA hif (by rw [hsz]; rfl) hone
    show (Instr.storeAt 97 (.pointer (some ⟨w3.heap.size, 0, none⟩)) (.agg DA) >>= fun _ => pure Next.skip : Sem Next).run Tryd.prog _ = _
    simp only [Sem.run_bind, h, Result.andThen, Sem.run_pure]
  refine wpList_nil ?_
  simp only [Act.put]
  have hDn := heap_alloc_new w3 (.cells DA 97)
  have hB34 := boxed w3 (.cells DA 97)
  have y0 : (w3.alloc (.cells DA 97)).cell? ⟨w3.heap.size, 0, none⟩ = some (B8 (S.getD 0 0)) := cell_of hDn (hget 0 (by omega))
  have y1 : (w3.alloc (.cells DA 97)).cell? ⟨w3.heap.size, 1, none⟩ = some (B8 (S.getD 1 0)) := cell_of hDn (hget 1 (by omega))
  have y2 : (w3.alloc (.cells DA 97)).cell? ⟨w3.heap.size, 2, none⟩ = some (B8 (S.getD 2 0)) := cell_of hDn (hget 2 (by omega))
  have y3 : (w3.alloc (.cells DA 97)).cell? ⟨w3.heap.size, 3, none⟩ = some (B8 (S.getD 3 0)) := cell_of hDn (hget 3 (by omega))
  have x0 := cell_on hB34 x0
  have x1 := cell_on hB34 x1
  have x2 := cell_on hB34 x2
  have x3 := cell_on hB34 x3
  have hb4 := Lib.hid (hb3.out.on hB34)
  have hZ4 := Lib.hid (heap_on hB34 hZ3.out)
  have hE4 := Lib.hid (heap_on hB34 hE3.out)
  have hB44 := Lib.hid (later' hB33.out hB34)
  have hs4 : (w3.alloc (.cells DA 97)).heap.size = w3.heap.size + 1 := by simp
  clear hDn hB34 hget hone hif hsz hZ3 hE3 hB33 hb3
  generalize w3.alloc (.cells DA 97) = w4 at *
  have hnot : ([S.getD 0 0, S.getD 1 0, S.getD 2 0, S.getD 3 0] == [s4.getD 0 0, s4.getD 1 0, s4.getD 2 0, s4.getD 3 0]) = false := by
    refine beq_eq_false_iff_ne.2 fun e => hsum4 ?_
    match s4, h4 with
    | [p0, p1, p2, p3], _ =>
      have h1 : S.take 4 = [S.getD 0 0, S.getD 1 0, S.getD 2 0, S.getD 3 0] := by
        match S, hD with
        | u0 :: u1 :: u2 :: u3 :: r, _ => simp
      rw [h1, e]
      simp
  replace hsum4 := Lib.hid hsum4
  clear hD
  generalize S.getD 0 0 = q0 at *
  generalize S.getD 1 0 = q1 at *
  generalize S.getD 2 0 = q2 at *
  generalize S.getD 3 0 = q3 at *
  generalize s4.getD 0 0 = p0 at *
  generalize s4.getD 1 0 = p1 at *
  generalize s4.getD 2 0 = p2 at *
  generalize s4.getD 3 0 = p3 at *
  have ha4 := arrAt4
  have he4 := eql4 q0 q1 q2 q3 p0 p1 p2 p3
  rw [hnot] at he4
  have hc1 : ¬ (c = Q) := by omega
  have hwQ2 : IntKind.i64.wrap (Q : Int) = (Q : Int) := by rw [IntKind.wrap_i64]; omega
  have hc2 : (4 : Int) ≤ ((c - Q : Nat) : Int) := by omega
  have hLQ : L - Q = 4 := by omega
  have hQL : (Q : Int) ≤ (L : Int) := by omega
  clear hnot
  go_wp2_with fail
  go_still_tail 12, (by kernel_rfl)
  change wpList _ _ _ _ _ w4.drew
  have hZ2 : Hid (w4.drew.heap[w.heap.size]? = some (.cells Tryd.zeroCells36 36 (0, 0))) := Lib.hid hZ4.out
  have hE2 : Hid (w4.drew.heap[w.heap.size + 1]? = some (.cells #[.nilIface] 38 (0, 0))) := Lib.hid hE4.out
  have hB2 : Hid (Below w.heap.size w w4.drew) := Lib.hid hB44.out.drew
  have hs2' : w.heap.size + 2 ≤ w4.drew.heap.size := by simp; omega
  clear hZ4 hE4 hB44 hb4 x0 x1 x2 x3 y0 y1 y2 y3 ha4 he4
  generalize w4.drew = w5 at hZ2 hE2 hB2 hs2' ⊢
  go_wp2_with fail
  refine (need_false kSum (Q : Int) 103 _).mono ?_
  rintro e w6 ⟨q, rfl, hq, hF, hBn⟩
  have hE3 := heap_on hBn hE2.out
  have hZ3 := heap_on hBn hZ2.out
  have hB33 := later' hB2.out hBn
  have ce : w6.cell? ⟨w.heap.size + 1, 0, none⟩ = some .nilIface := cell_of hE3 rfl
  have cf : w6.frozen? ⟨w.heap.size + 1, 0, none⟩ = false := free_of hE3
  have hq2 : w.heap.size + 2 ≤ q := by omega
  clear hZ2 hE2 hB2 hBn hq
  replace hE3 := Lib.hid hE3
  replace hZ3 := Lib.hid hZ3
  replace hF := Lib.hid hF
  replace hB33 := Lib.hid hB33
  go_wp2_with fail
  have hEf := cell_of (heap_set (o := 0) hE3.out (errOf q)) (off := 0) rfl
  have hKf : Keep (fun k => k = w.heap.size + 1) w6 (w6.setCell ⟨w.heap.size + 1, 0, none⟩ (errOf q)) := Keep.set (fun k => k = w.heap.size + 1) _ _ _ rfl
  have hZf := hKf.heap (show ¬ w.heap.size = w.heap.size + 1 by omega) hZ3.out
  have hFf : FaultAt (w6.setCell ⟨w.heap.size + 1, 0, none⟩ (errOf q)) q ⟨kSum, (Q : Int), 103⟩ := hKf.heap (show ¬ q = w.heap.size + 1 by omega) hF.out
  have hBf := below_keep hB33.out hKf (fun i e => by omega) hB33.out.size
  have hif : (Tryd.prog.info? 36).map (·.size) = some Tryd.zeroCells36.size := by kernel_rfl
  have hL := run_loadVar_row (P := Tryd.prog) _ w.heap.size 36 36 _ (0, 0) _ hZf Tryd.underlying36 rfl hif
  have hL2 : (loadVar 38 ⟨w.heap.size + 1, 0, none⟩).run Tryd.prog (w6.setCell ⟨w.heap.size + 1, 0, none⟩ (errOf q)) = .ok (errOf q) (w6.setCell ⟨w.heap.size + 1, 0, none⟩ (errOf q)) := by simp [go_sem, hEf]
  refine leaves_cons (f := 36) (args := #[.pointer (some ⟨w.heap.size + 1, 0, none⟩)]) (by simp) (by simp [go_sem]) ?_
  refine (caught_panicking ⟨w.heap.size + 1, 0, none⟩ q .nilIface [] _ ce cf).mono ?_
  rintro e u' w'' ⟨rfl, rfl, rfl⟩
  exact ⟨_, results_cell2 rfl _ _ ⟨w.heap.size, 0, none⟩ ⟨w.heap.size + 1, 0, none⟩ (.agg Tryd.zeroCells36) (errOf q) rfl rfl hL hL2, q, rfl, hFf, hBf⟩

end Go.Proofs.YtmnmmabhmedioaaDoor
