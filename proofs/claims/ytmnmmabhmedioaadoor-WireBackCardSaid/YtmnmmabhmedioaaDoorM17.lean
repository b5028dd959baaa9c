/- Wire: Decode of a frame whose sum fits: kinds 5, 6. (Printed by gen_dec2.py.) -/
import Derived.Test.YtmnmmabhmedioaaDoorM16
namespace Go.Proofs.YtmnmmabhmedioaaDoor
open Go.RowKit
set_option linter.unusedVariables false
set_option linter.unusedSimpArgs false
set_option maxRecDepth 100000

set_option maxHeartbeats 16000000 in
theorem decode_k5 (b o c : Nat) (kd : UInt8) (body s4 : List UInt8) (w : World) (N L Q : Nat) (hk1 : 1 ≤ nb kd) (hk6 : nb kd ≤ 6) (hN : body.length = N) (hNm : N ≤ 1065189) (h4 : s4.length = 4) (hLd : 14 + N = L) (hQd : 10 + N = Q) (hc : L ≤ c) (hlt : b < w.heap.size) (hkd : nb kd = 5) (hsum4 : s4 = (sha (preL kd body)).take 4) (hb : Bs w (some ⟨b, o, none⟩) (preL kd body ++ s4)) (dr : DR) (hdr : bodyF kd (preL kd body) = dr) :
    Calls Tryd.prog 11 #[.slice (some ⟨b, o, none⟩) L c] w (DecPost w dr) := by
  have hpl : (preL kd body).length = Q := by rw [preL_len]; omega
  unfold bodyF at hdr
  replace hdr := Lib.hid hdr
  replace hb := Lib.hid hb
  go_enter_defers Tryd.func11, Tryd.ntmps11
  go_upto_region 2 with fail
  have hZ : ((w.alloc (.cells Tryd.zeroCells36 36)).alloc (.cells #[.nilIface] 38)).heap[w.heap.size]? = some (.cells Tryd.zeroCells36 36 (0, 0)) := by
    rw [heap_alloc?, if_neg (by simp)]; exact heap_alloc_new w _
  have hE : ((w.alloc (.cells Tryd.zeroCells36 36)).alloc (.cells #[.nilIface] 38)).heap[w.heap.size + 1]? = some (.cells #[.nilIface] 38 (0, 0)) := by
    rw [heap_alloc?, if_pos (by simp)]
  have hB : Below w.heap.size w ((w.alloc (.cells Tryd.zeroCells36 36)).alloc (.cells #[.nilIface] 38)) := later (boxed _ _) (boxed _ _)
  have hsz : ((w.alloc (.cells Tryd.zeroCells36 36)).alloc (.cells #[.nilIface] 38)).heap.size = w.heap.size + 2 := by simp
  generalize ((w.alloc (.cells Tryd.zeroCells36 36)).alloc (.cells #[.nilIface] 38)) = w1 at hZ hE hB hsz ⊢
  have hb1 := hb.out.on hB
  replace hZ := Lib.hid hZ
  replace hE := Lib.hid hE
  go_wp2_with fail
  have hpk := peek_frame b o c kd body s4 w1 N L hk1 hk6 hN hNm h4 hLd hc hb1
  rw [hkd] at hpk
  refine hpk.mono ?_
  rintro e w2 ⟨rfl, md, hw2⟩
  have hb2 : Bs w2 (some ⟨b, o, none⟩) (preL kd body ++ s4) := by rw [hw2]; exact hb1
  have hB2 : Below w.heap.size w w2 := by rw [hw2]; exact below_drewN hB md
  have hs2 : w2.heap.size = w.heap.size + 2 := by rw [hw2]; exact hsz
  have hZ2 : w2.heap[w.heap.size]? = some (.cells Tryd.zeroCells36 36 (0, 0)) := by rw [hw2]; exact hZ.out
  have hE2 : w2.heap[w.heap.size + 1]? = some (.cells #[.nilIface] 38 (0, 0)) := by rw [hw2]; exact hE.out
  have hbp : Bs w2 (some ⟨b, o, none⟩) (preL kd body) := by
    have h := hb2.take Q
    rw [List.take_append_of_le_length (by omega), List.take_of_length_le (by omega)] at h
    exact h
  replace hZ2 := Lib.hid hZ2
  replace hE2 := Lib.hid hE2
  replace hb2 := Lib.hid hb2
  replace hbp := Lib.hid hbp
  replace hB2 := Lib.hid hB2
  have hcQ : (Q : Int) ≤ (c : Int) := by omega
  have hcL : (L : Int) ≤ (c : Int) := by omega
  have hwQ : wrap64 ((L : Int) - 4) = (Q : Int) := by rw [IntWalk.wrap64_in _ ⟨by omega, by omega⟩]; omega
  have hq0 : (0 : Int) ≤ (Q : Int) := by omega
  have hL4 : L - 4 = Q := by omega
  have hL4i : (L : Int) - 4 = (Q : Int) := by omega
  clear hpk hw2 hZ hE hB hsz hb1 hb
  go_wp2_with fail
  refine (need_same _ _ _ _).mono ?_
  rintro e w' ⟨rfl, rfl⟩
  go_wp2_with fail
  refine (need_same _ _ _ _).mono ?_
  rintro e w2 ⟨rfl, rfl⟩
  go_wp2_with fail
  have hsum := sum1_any b o c (preL kd body) w2 (by omega) (by omega) hbp.out (by omega)
  rw [hpl] at hsum
  refine hsum.mono ?_
  rintro e w3 ⟨rfl, hB3⟩
  clear hsum
  rename_i hK
  have hs3 := hB3.size
  have hD := sha_length (preL kd body)
  have hb3 := hb2.out.on hB3
  have hfx : ∀ i, i < 4 → (preL kd body ++ s4).getD (Q + i) 0 = s4.getD i 0 := fun i hi => by
    rw [List.getD_eq_getElem?_getD, List.getElem?_append_right (by omega), hpl, show Q + i - Q = i from by omega, ← List.getD_eq_getElem?_getD]
  have hcl := fun i (hi : i < 4) => hb3.at (Q + i) (by simp [h4]; omega)
  have x0 : w3.cell? ⟨b, o + Q, none⟩ = some (B8 (s4.getD 0 0)) := by rw [← hfx 0 (by omega)]; exact hcl 0 (by omega)
  have x1 : w3.cell? ⟨b, o + Q + 1, none⟩ = some (B8 (s4.getD 1 0)) := by rw [← hfx 1 (by omega)]; exact hcl 1 (by omega)
  have x2 : w3.cell? ⟨b, o + Q + 2, none⟩ = some (B8 (s4.getD 2 0)) := by rw [← hfx 2 (by omega)]; exact hcl 2 (by omega)
  have x3 : w3.cell? ⟨b, o + Q + 3, none⟩ = some (B8 (s4.getD 3 0)) := by rw [← hfx 3 (by omega)]; exact hcl 3 (by omega)
  have hsz : ((sha (preL kd body)).map B8).toArray.size = 64 := by rw [List.size_toArray, List.length_map, hD]
  have hone : ((sha (preL kd body)).map B8).toArray.all (·.oneCell') = true := all_oneCell_toArray one_bytes
  have hget : ∀ i, i < 64 → ((sha (preL kd body)).map B8).toArray[i]? = some (B8 ((sha (preL kd body)).getD i 0)) := fun i hi => by
    rw [List.getElem?_toArray, List.getElem?_map, List.getD_eq_getElem?_getD, List.getElem?_eq_getElem (show i < (sha (preL kd body)).length by omega)]
    rfl
  clear hfx hcl hbp hb2
  replace hb3 := Lib.hid hb3
  have hZ3 := Lib.hid (heap_on hB3 hZ2.out)
  have hE3 := Lib.hid (heap_on hB3 hE2.out)
  have hB33 := Lib.hid (later' hB2.out hB3)
  clear hZ2 hE2 hB2 hB3
  refine hK _ _ ?_
  clear hK
  generalize ((sha (preL kd body)).map B8).toArray = DA at hsz hone hget ⊢
  generalize (sha (preL kd body)) = S at hget hD hsum4
  have hif : (Tryd.prog.info? 97).map (·.size) = some DA.size := by rw [hsz]; kernel_rfl
  refine wpList_value (w' := w3.alloc (.cells z64 97)) rfl (.pointer (some ⟨w3.heap.size, 0, none⟩)) (by kernel_rfl) ?_
  refine wpList_skips (w' := w3.alloc (.cells DA 97)) rfl ?_ ?_
  · have h := run_storeAt_new (P := Tryd.prog) w3 97 z64 DA hif (by rw [hsz]; rfl) hone
    show (Instr.storeAt 97 (.pointer (some ⟨w3.heap.size, 0, none⟩)) (.agg DA) >>= fun _ => pure Next.skip : Sem Next).run Tryd.prog _ = _
    simp only [Sem.run_bind, h, Result.andThen, Sem.run_pure]
  refine wpList_nil ?_
  simp only [Act.put]
  have hDn := heap_alloc_new w3 (.cells DA 97)
  have hB34 := boxed w3 (.cells DA 97)
  have y0 : (w3.alloc (.cells DA 97)).cell? ⟨w3.heap.size, 0, none⟩ = some (B8 (S.getD 0 0)) := cell_of hDn (hget 0 (by omega))
  have y1 : (w3.alloc (.cells DA 97)).cell? ⟨w3.heap.size, 1, none⟩ = some (B8 (S.getD 1 0)) := cell_of hDn (hget 1 (by omega))
  have y2 : (w3.alloc (.cells DA 97)).cell? ⟨w3.heap.size, 2, none⟩ = some (B8 (S.getD 2 0)) := cell_of hDn (hget 2 (by omega))
  have y3 : (w3.alloc (.cells DA 97)).cell? ⟨w3.heap.size, 3, none⟩ = some (B8 (S.getD 3 0)) := cell_of hDn (hget 3 (by omega))
  replace x0 := cell_on hB34 x0
  replace x1 := cell_on hB34 x1
  replace x2 := cell_on hB34 x2
  replace x3 := cell_on hB34 x3
  have hb4 := Lib.hid (hb3.out.on hB34)
  have hZ4 := Lib.hid (heap_on hB34 hZ3.out)
  have hE4 := Lib.hid (heap_on hB34 hE3.out)
  have hB44 := Lib.hid (later' hB33.out hB34)
  have hs4 : (w3.alloc (.cells DA 97)).heap.size = w3.heap.size + 1 := by simp
  clear hDn hB34 hget hone hif hsz hZ3 hE3 hB33 hb3
  generalize w3.alloc (.cells DA 97) = w4 at *
  have hqq : ∀ i, i < 4 → s4.getD i 0 = S.getD i 0 := fun i hi => by rw [hsum4, getD_take _ hi]
  rw [hqq 0 (by omega)] at x0
  rw [hqq 1 (by omega)] at x1
  rw [hqq 2 (by omega)] at x2
  rw [hqq 3 (by omega)] at x3
  clear hqq hD
  clear hsum4
  generalize S.getD 0 0 = q0 at *
  generalize S.getD 1 0 = q1 at *
  generalize S.getD 2 0 = q2 at *
  generalize S.getD 3 0 = q3 at *
  have ha4 := arrAt4
  have he4 := eql4_same q0 q1 q2 q3
  have hc1 : ¬ (c = Q) := by omega
  have hwQ2 : IntKind.i64.wrap (Q : Int) = (Q : Int) := by rw [IntKind.wrap_i64]; omega
  have hc2 : (4 : Int) ≤ ((c - Q : Nat) : Int) := by omega
  have hLQ : L - Q = 4 := by omega
  have hQL : (Q : Int) ≤ (L : Int) := by omega
  go_wp2_with fail
  go_quiet ((go_at_call 38; exact Calls.quiet_of_same (need_same _ _ _ _)))
  have hb5 : Bs (w4.drewN nq) (some ⟨b, o, none⟩) (preL kd body) := by
    have h := (Bs.drewN hb4.out nq).take Q
    rw [List.take_append_of_le_length (by omega), List.take_of_length_le (by omega)] at h
    exact h
  have hFr5 : FrD w (w4.drewN nq) := ⟨hZ4.out, hE4.out, below_drewN hB44.out nq⟩
  have hs5 : w.heap.size + 2 ≤ (w4.drewN nq).heap.size := by simp only [World.heap_drewN]; omega
  clear hb4 hZ4 hE4 hB44 hs4 x0 x1 x2 x3 y0 y1 y2 y3 he4 ha4
  generalize w4.drewN nq = w5 at hb5 hFr5 hs5 ⊢
  replace hb5 := Lib.hid hb5
  replace hFr5 := Lib.hid hFr5
  go_upto_region 8 with fail
  have hRd := RdM.made w5 b o Q c (preL kd body) hb5.out hpl (by omega) (by omega) (by omega) (by omega)
  have hFr := hFr5.out.on (boxed w5 (.cells ((Tryd.zeroCells107.setIfInBounds 0 (.slice (some ⟨b, o, none⟩) Q c)).setIfInBounds 1 (.int .i64 10)) 107))
  have hR2 : w.heap.size + 2 ≤ w5.heap.size := hs5
  clear hb5 hFr5 hs5 hcQ hcL hwQ hq0 hL4 hL4i hwQ2 hc2 hLQ hQL hc1
  generalize hRe : w5.heap.size = R at hRd hR2 ⊢
  generalize w5.alloc (.cells ((Tryd.zeroCells107.setIfInBounds 0 (.slice (some ⟨b, o, none⟩) Q c)).setIfInBounds 1 (.int .i64 10)) 107) = w6 at hRd hFr ⊢
  have hRne : w.heap.size + 2 ≤ R := hR2
  have hM := Lib.hid zC_msg
  obtain ⟨CS0, hCS⟩ : ∃ x, x = Tryd.zeroCells36 := ⟨_, rfl⟩
  rw [← hCS] at hRd hM
  clear hCS
  have l2 := hRd.c2 hM.out.kind 2 rfl
  have lf := hRd.free 2
  replace hRd := Lib.hid hRd
  replace hFr := Lib.hid hFr
  go_upto_region 9 with fail
  clear l2 lf
  have hRd2 := hRd.out.set1 0 (.int .i64 5) 2 rfl
  have hFr2 := hFr.out.keepR (Keep.set (fun k => k = R) R 2 (.int .i64 5) rfl) hRne
  have hM2 := hM.out.set_kind 5
  clear hRd hFr hM
  generalize (w6.setCell ⟨R, 2, none⟩ (.int .i64 5)) = w7 at hRd2 hFr2 ⊢
  obtain ⟨CS7, hCS2⟩ : ∃ x, x = setRange CS0 0 [.int .i64 5] := ⟨_, rfl⟩
  rw [← hCS2] at hRd2 hM2
  clear hCS2 CS0
  have l1 := hRd2.c1
  have hRd := Lib.hid hRd2
  have hFr := Lib.hid hFr2
  have hM := Lib.hid hM2
  clear hRd2 hFr2 hM2
  go_wp2_with fail
  by_cases hltw7 : Q < 10 + 32
  · have hP := Lib.hid (takeF_bad hdr.out (by rw [hpl]; exact hltw7))
    clear hdr
    refine (take_rd_short hRd.out 32 kSession _ hltw7 (by omega)).mono ?_
    rintro e w8 ⟨q, rfl, hq, hF, hK⟩
    have hFr := hFr.out.keepR hK hRne
    have hq2 : w.heap.size + 2 ≤ q := Nat.le_trans (Nat.le_trans hRne (Nat.le_of_lt hRd.out.lt)) hq
    replace hF := Lib.hid hF
    clear hRd hM hK hq
    obtain ⟨hZ3, hE3, hB33⟩ := hFr
    have ce : w8.cell? ⟨w.heap.size + 1, 0, none⟩ = some .nilIface := cell_of hE3 rfl
    have cf : w8.frozen? ⟨w.heap.size + 1, 0, none⟩ = false := free_of hE3
    replace hE3 := Lib.hid hE3
    replace hZ3 := Lib.hid hZ3
    replace hB33 := Lib.hid hB33
    go_wp2_with fail
    have hEf := cell_of (heap_set (o := 0) hE3.out (errOf q)) (off := 0) rfl
    have hKf : Keep (fun k => k = w.heap.size + 1) w8 (w8.setCell ⟨w.heap.size + 1, 0, none⟩ (errOf q)) := Keep.set (fun k => k = w.heap.size + 1) _ _ _ rfl
    have hZf := hKf.heap (show ¬ w.heap.size = w.heap.size + 1 by omega) hZ3.out
    have hFf := hKf.heap (show ¬ q = w.heap.size + 1 by omega) hF.out
    have hBf := below_keep hB33.out hKf (fun i e => by omega) hB33.out.size
    have hif : (Tryd.prog.info? 36).map (·.size) = some Tryd.zeroCells36.size := by kernel_rfl
    have hL := run_loadVar_row (P := Tryd.prog) _ w.heap.size 36 36 _ (0, 0) _ hZf Tryd.underlying36 rfl hif
    have hL2 : (loadVar 38 ⟨w.heap.size + 1, 0, none⟩).run Tryd.prog (w8.setCell ⟨w.heap.size + 1, 0, none⟩ (errOf q)) = .ok (errOf q) (w8.setCell ⟨w.heap.size + 1, 0, none⟩ (errOf q)) := by simp [go_sem, hEf]
    refine leaves_cons (f := 36) (args := #[.pointer (some ⟨w.heap.size + 1, 0, none⟩)]) (by simp) (by simp [go_sem]) ?_
    refine (caught_panicking ⟨w.heap.size + 1, 0, none⟩ q .nilIface [] _ ce cf).mono ?_
    rintro e u' w'' ⟨rfl, rfl, rfl⟩
    exact ⟨_, results_cell2 rfl _ _ ⟨w.heap.size, 0, none⟩ ⟨w.heap.size + 1, 0, none⟩ (.agg Tryd.zeroCells36) (errOf q) rfl rfl hL hL2, DecPost.bad hP.out ⟨q, rfl, hFf, hBf⟩⟩

  replace hdr := Lib.hid (takeF_ok hdr.out (by rw [hpl]; omega))
  refine (take_rd hRd.out 32 _ _ (by omega)).mono ?_
  rintro e w8 ⟨rfl, hRd2, hK⟩
  replace hFr := Lib.hid (hFr.out.keepR hK hRne)
  replace hRd : Hid (RdM w8 R b o Q c 42 (preL kd body) CS7) := Lib.hid hRd2
  have hsl := segL_len (l := preL kd body) (at_ := 10) (n := 32) (by rw [hpl]; omega)
  clear hRd2 hK l1
  have hss := hRd.out.seg 10 32
  obtain ⟨sg, hsgd⟩ : ∃ x, x = segL (preL kd body) 10 32 := ⟨_, rfl⟩
  rw [← hsgd] at hss hsl hdr
  clear hsgd
  rename_i hK
  refine hK _ _ ?_
  clear hK
  refine wpList_value (w' := w8) rfl (.pointer (some ⟨b, o + 10, none⟩)) (by
    show (Instr.arrayAt 26 (.slice (some ⟨b, o + 10, none⟩) 32 (c - 10)) >>= fun v => pure (Next.value v) : Sem Next).run Tryd.prog w8 = _
    simp only [Sem.run_bind, arrAt32, Result.andThen, Sem.run_pure]) ?_
  have hif : (Tryd.prog.info? 26).map (·.size) = some (sg.map B8).length := by rw [List.length_map, hsl]; kernel_rfl
  refine wpList_load_mid rfl _ _ rfl b (o + 10) rfl (sg.map B8) _ hss.range Tryd.underlying26 rfl hif ?_
  have hif2 : (Tryd.prog.info? 26).map (·.size) = some (sg.map B8).toArray.size := by rw [List.size_toArray]; exact hif
  have hone : (sg.map B8).toArray.all (·.oneCell') = true := all_oneCell_toArray one_bytes
  have hsL : (sg.map B8).toArray.toList = sg.map B8 := rfl
  have hssz : (sg.map B8).toArray.size = 32 := by simp [hsl]
  generalize (sg.map B8).toArray = SA at hif2 hone hsL hssz ⊢
  have hth := hRd.out.there 3 SA.size (by rw [hM.out.size, hssz]; omega)
  clear hss hif
  go_upto_region 10 with (refine wpList_store_mid rfl _ _ _ rfl R 3 SA rfl rfl hth hif2 hone ?_)
  try rw [hsL]
  clear hth hif2 hone hsL hssz
  have hRd2 := hRd.out.setN 1 (sg.map B8) 3 rfl
  have hFr2 := hFr.out.keepR (setCells_keep w8 R 3 (sg.map B8)) hRne
  have hM2 := hM.out.set_session sg hsl
  clear hRd hFr hM
  generalize (w8.setCells R 3 (sg.map B8)) = w9 at hRd2 hFr2 ⊢
  obtain ⟨CS9, hCS2⟩ : ∃ x, x = setRange CS7 1 (sg.map B8) := ⟨_, rfl⟩
  rw [← hCS2] at hRd2 hM2
  clear hCS2 CS7
  have l1 := hRd2.c1
  have hRd := Lib.hid hRd2
  have hFr := Lib.hid hFr2
  have hM := Lib.hid hM2
  clear hRd2 hFr2 hM2
  go_wp2_with fail
  by_cases hltw9 : Q < 42 + 1
  · have hP := Lib.hid (takeF_bad hdr.out (by rw [hpl]; exact hltw9))
    clear hdr
    refine (take_rd_short hRd.out 1 kFrom _ hltw9 (by omega)).mono ?_
    rintro e w10 ⟨q, rfl, hq, hF, hK⟩
    have hFr := hFr.out.keepR hK hRne
    have hq2 : w.heap.size + 2 ≤ q := Nat.le_trans (Nat.le_trans hRne (Nat.le_of_lt hRd.out.lt)) hq
    replace hF := Lib.hid hF
    clear hRd hM hK hq
    obtain ⟨hZ3, hE3, hB33⟩ := hFr
    have ce : w10.cell? ⟨w.heap.size + 1, 0, none⟩ = some .nilIface := cell_of hE3 rfl
    have cf : w10.frozen? ⟨w.heap.size + 1, 0, none⟩ = false := free_of hE3
    replace hE3 := Lib.hid hE3
    replace hZ3 := Lib.hid hZ3
    replace hB33 := Lib.hid hB33
    go_wp2_with fail
    have hEf := cell_of (heap_set (o := 0) hE3.out (errOf q)) (off := 0) rfl
    have hKf : Keep (fun k => k = w.heap.size + 1) w10 (w10.setCell ⟨w.heap.size + 1, 0, none⟩ (errOf q)) := Keep.set (fun k => k = w.heap.size + 1) _ _ _ rfl
    have hZf := hKf.heap (show ¬ w.heap.size = w.heap.size + 1 by omega) hZ3.out
    have hFf := hKf.heap (show ¬ q = w.heap.size + 1 by omega) hF.out
    have hBf := below_keep hB33.out hKf (fun i e => by omega) hB33.out.size
    have hif : (Tryd.prog.info? 36).map (·.size) = some Tryd.zeroCells36.size := by kernel_rfl
    have hL := run_loadVar_row (P := Tryd.prog) _ w.heap.size 36 36 _ (0, 0) _ hZf Tryd.underlying36 rfl hif
    have hL2 : (loadVar 38 ⟨w.heap.size + 1, 0, none⟩).run Tryd.prog (w10.setCell ⟨w.heap.size + 1, 0, none⟩ (errOf q)) = .ok (errOf q) (w10.setCell ⟨w.heap.size + 1, 0, none⟩ (errOf q)) := by simp [go_sem, hEf]
    refine leaves_cons (f := 36) (args := #[.pointer (some ⟨w.heap.size + 1, 0, none⟩)]) (by simp) (by simp [go_sem]) ?_
    refine (caught_panicking ⟨w.heap.size + 1, 0, none⟩ q .nilIface [] _ ce cf).mono ?_
    rintro e u' w'' ⟨rfl, rfl, rfl⟩
    exact ⟨_, results_cell2 rfl _ _ ⟨w.heap.size, 0, none⟩ ⟨w.heap.size + 1, 0, none⟩ (.agg Tryd.zeroCells36) (errOf q) rfl rfl hL hL2, DecPost.bad hP.out ⟨q, rfl, hFf, hBf⟩⟩

  replace hdr := Lib.hid (takeF_ok hdr.out (by rw [hpl]; omega))
  refine (take_rd hRd.out 1 _ _ (by omega)).mono ?_
  rintro e w10 ⟨rfl, hRd2, hK⟩
  replace hFr := Lib.hid (hFr.out.keepR hK hRne)
  replace hRd : Hid (RdM w10 R b o Q c 43 (preL kd body) CS9) := Lib.hid hRd2
  have hsl := segL_len (l := preL kd body) (at_ := 42) (n := 1) (by rw [hpl]; omega)
  clear hRd2 hK l1
  have x0 := hRd.out.cell (j := 42) (by omega) (o + 42) rfl
  have e0 : (segL (preL kd body) 42 1).getD 0 0 = (preL kd body).getD 42 0 := segL_getD _ _ _ 0 (by decide)
  rw [e0] at hdr
  generalize (preL kd body).getD 42 0 = y10 at x0 hdr
  clear hsl e0
  have m0 := hRd.out.c2 hM.out.from_ 35 rfl
  have mf := hRd.out.free 35
  have hwf : IntKind.i64.wrap (nb y10) = nb y10 := by have := nb_bd y10; rw [IntKind.wrap_i64]; omega
  have hwf2 : wrap64 (nb y10) = nb y10 := by have := nb_bd y10; exact IntWalk.wrap64_in _ ⟨by omega, by omega⟩
  go_upto_region 11 with fail
  clear x0 m0 mf hwf hwf2
  have hRd2 := hRd.out.set1 33 (.int .i64 (nb y10)) 35 rfl
  have hFr2 := hFr.out.keepR (Keep.set (fun k => k = R) R 35 (.int .i64 (nb y10)) rfl) hRne
  have hM2 := hM.out.set_from_ (nb y10)
  clear hRd hFr hM
  generalize (w10.setCell ⟨R, 35, none⟩ (.int .i64 (nb y10))) = w11 at hRd2 hFr2 ⊢
  obtain ⟨CS11, hCS2⟩ : ∃ x, x = setRange CS9 33 [.int .i64 (nb y10)] := ⟨_, rfl⟩
  rw [← hCS2] at hRd2 hM2
  clear hCS2 CS9
  have l1 := hRd2.c1
  have hRd := Lib.hid hRd2
  have hFr := Lib.hid hFr2
  have hM := Lib.hid hM2
  clear hRd2 hFr2 hM2
  go_wp2_with fail
  by_cases hltw11 : Q < 43 + 1
  · have hP := Lib.hid (takeF_bad hdr.out (by rw [hpl]; exact hltw11))
    clear hdr
    refine (take_rd_short hRd.out 1 kTo _ hltw11 (by omega)).mono ?_
    rintro e w12 ⟨q, rfl, hq, hF, hK⟩
    have hFr := hFr.out.keepR hK hRne
    have hq2 : w.heap.size + 2 ≤ q := Nat.le_trans (Nat.le_trans hRne (Nat.le_of_lt hRd.out.lt)) hq
    replace hF := Lib.hid hF
    clear hRd hM hK hq
    obtain ⟨hZ3, hE3, hB33⟩ := hFr
    have ce : w12.cell? ⟨w.heap.size + 1, 0, none⟩ = some .nilIface := cell_of hE3 rfl
    have cf : w12.frozen? ⟨w.heap.size + 1, 0, none⟩ = false := free_of hE3
    replace hE3 := Lib.hid hE3
    replace hZ3 := Lib.hid hZ3
    replace hB33 := Lib.hid hB33
    go_wp2_with fail
    have hEf := cell_of (heap_set (o := 0) hE3.out (errOf q)) (off := 0) rfl
    have hKf : Keep (fun k => k = w.heap.size + 1) w12 (w12.setCell ⟨w.heap.size + 1, 0, none⟩ (errOf q)) := Keep.set (fun k => k = w.heap.size + 1) _ _ _ rfl
    have hZf := hKf.heap (show ¬ w.heap.size = w.heap.size + 1 by omega) hZ3.out
    have hFf := hKf.heap (show ¬ q = w.heap.size + 1 by omega) hF.out
    have hBf := below_keep hB33.out hKf (fun i e => by omega) hB33.out.size
    have hif : (Tryd.prog.info? 36).map (·.size) = some Tryd.zeroCells36.size := by kernel_rfl
    have hL := run_loadVar_row (P := Tryd.prog) _ w.heap.size 36 36 _ (0, 0) _ hZf Tryd.underlying36 rfl hif
    have hL2 : (loadVar 38 ⟨w.heap.size + 1, 0, none⟩).run Tryd.prog (w12.setCell ⟨w.heap.size + 1, 0, none⟩ (errOf q)) = .ok (errOf q) (w12.setCell ⟨w.heap.size + 1, 0, none⟩ (errOf q)) := by simp [go_sem, hEf]
    refine leaves_cons (f := 36) (args := #[.pointer (some ⟨w.heap.size + 1, 0, none⟩)]) (by simp) (by simp [go_sem]) ?_
    refine (caught_panicking ⟨w.heap.size + 1, 0, none⟩ q .nilIface [] _ ce cf).mono ?_
    rintro e u' w'' ⟨rfl, rfl, rfl⟩
    exact ⟨_, results_cell2 rfl _ _ ⟨w.heap.size, 0, none⟩ ⟨w.heap.size + 1, 0, none⟩ (.agg Tryd.zeroCells36) (errOf q) rfl rfl hL hL2, DecPost.bad hP.out ⟨q, rfl, hFf, hBf⟩⟩

  replace hdr := Lib.hid (takeF_ok hdr.out (by rw [hpl]; omega))
  refine (take_rd hRd.out 1 _ _ (by omega)).mono ?_
  rintro e w12 ⟨rfl, hRd2, hK⟩
  replace hFr := Lib.hid (hFr.out.keepR hK hRne)
  replace hRd : Hid (RdM w12 R b o Q c 44 (preL kd body) CS11) := Lib.hid hRd2
  have hsl := segL_len (l := preL kd body) (at_ := 43) (n := 1) (by rw [hpl]; omega)
  clear hRd2 hK l1
  have x0 := hRd.out.cell (j := 43) (by omega) (o + 43) rfl
  have e0 : (segL (preL kd body) 43 1).getD 0 0 = (preL kd body).getD 43 0 := segL_getD _ _ _ 0 (by decide)
  rw [e0] at hdr
  generalize (preL kd body).getD 43 0 = y12 at x0 hdr
  clear hsl e0
  have m0 := hRd.out.c2 hM.out.to_ 36 rfl
  have mf := hRd.out.free 36
  have hwf : IntKind.i64.wrap (nb y12) = nb y12 := by have := nb_bd y12; rw [IntKind.wrap_i64]; omega
  have hwf2 : wrap64 (nb y12) = nb y12 := by have := nb_bd y12; exact IntWalk.wrap64_in _ ⟨by omega, by omega⟩
  go_upto_region 12 with fail
  clear x0 m0 mf hwf hwf2
  have hRd2 := hRd.out.set1 34 (.int .i64 (nb y12)) 36 rfl
  have hFr2 := hFr.out.keepR (Keep.set (fun k => k = R) R 36 (.int .i64 (nb y12)) rfl) hRne
  have hM2 := hM.out.set_to_ (nb y12)
  clear hRd hFr hM
  generalize (w12.setCell ⟨R, 36, none⟩ (.int .i64 (nb y12))) = w13 at hRd2 hFr2 ⊢
  obtain ⟨CS13, hCS2⟩ : ∃ x, x = setRange CS11 34 [.int .i64 (nb y12)] := ⟨_, rfl⟩
  rw [← hCS2] at hRd2 hM2
  clear hCS2 CS11
  have l1 := hRd2.c1
  have hRd := Lib.hid hRd2
  have hFr := Lib.hid hFr2
  have hM := Lib.hid hM2
  clear hRd2 hFr2 hM2
  replace hdr := hdr.out
  rw [hkd] at hdr
  unfold restF at hdr
  rw [if_neg (by decide), if_neg (by decide), if_neg (by decide), if_pos rfl] at hdr
  replace hdr := Lib.hid hdr
  go_wp2_with fail
  by_cases hltw13 : Q < 44 + 2
  · have hP := Lib.hid (takeF_bad hdr.out (by rw [hpl]; exact hltw13))
    clear hdr
    refine (take_rd_short hRd.out 2 kCode _ hltw13 (by omega)).mono ?_
    rintro e w14 ⟨q, rfl, hq, hF, hK⟩
    have hFr := hFr.out.keepR hK hRne
    have hq2 : w.heap.size + 2 ≤ q := Nat.le_trans (Nat.le_trans hRne (Nat.le_of_lt hRd.out.lt)) hq
    replace hF := Lib.hid hF
    clear hRd hM hK hq
    obtain ⟨hZ3, hE3, hB33⟩ := hFr
    have ce : w14.cell? ⟨w.heap.size + 1, 0, none⟩ = some .nilIface := cell_of hE3 rfl
    have cf : w14.frozen? ⟨w.heap.size + 1, 0, none⟩ = false := free_of hE3
    replace hE3 := Lib.hid hE3
    replace hZ3 := Lib.hid hZ3
    replace hB33 := Lib.hid hB33
    go_wp2_with fail
    have hEf := cell_of (heap_set (o := 0) hE3.out (errOf q)) (off := 0) rfl
    have hKf : Keep (fun k => k = w.heap.size + 1) w14 (w14.setCell ⟨w.heap.size + 1, 0, none⟩ (errOf q)) := Keep.set (fun k => k = w.heap.size + 1) _ _ _ rfl
    have hZf := hKf.heap (show ¬ w.heap.size = w.heap.size + 1 by omega) hZ3.out
    have hFf := hKf.heap (show ¬ q = w.heap.size + 1 by omega) hF.out
    have hBf := below_keep hB33.out hKf (fun i e => by omega) hB33.out.size
    have hif : (Tryd.prog.info? 36).map (·.size) = some Tryd.zeroCells36.size := by kernel_rfl
    have hL := run_loadVar_row (P := Tryd.prog) _ w.heap.size 36 36 _ (0, 0) _ hZf Tryd.underlying36 rfl hif
    have hL2 : (loadVar 38 ⟨w.heap.size + 1, 0, none⟩).run Tryd.prog (w14.setCell ⟨w.heap.size + 1, 0, none⟩ (errOf q)) = .ok (errOf q) (w14.setCell ⟨w.heap.size + 1, 0, none⟩ (errOf q)) := by simp [go_sem, hEf]
    refine leaves_cons (f := 36) (args := #[.pointer (some ⟨w.heap.size + 1, 0, none⟩)]) (by simp) (by simp [go_sem]) ?_
    refine (caught_panicking ⟨w.heap.size + 1, 0, none⟩ q .nilIface [] _ ce cf).mono ?_
    rintro e u' w'' ⟨rfl, rfl, rfl⟩
    exact ⟨_, results_cell2 rfl _ _ ⟨w.heap.size, 0, none⟩ ⟨w.heap.size + 1, 0, none⟩ (.agg Tryd.zeroCells36) (errOf q) rfl rfl hL hL2, DecPost.bad hP.out ⟨q, rfl, hFf, hBf⟩⟩

  replace hdr := Lib.hid (takeF_ok hdr.out (by rw [hpl]; omega))
  refine (take_rd hRd.out 2 _ _ (by omega)).mono ?_
  rintro e w14 ⟨rfl, hRd2, hK⟩
  replace hFr := Lib.hid (hFr.out.keepR hK hRne)
  replace hRd : Hid (RdM w14 R b o Q c 46 (preL kd body) CS13) := Lib.hid hRd2
  have hsl := segL_len (l := preL kd body) (at_ := 44) (n := 2) (by rw [hpl]; omega)
  clear hRd2 hK l1
  have hcode := hRd.out.seg 44 2
  have hnum := numberOf_any (some ⟨b, o + 44, none⟩) (c - 44) (segL (preL kd body) 44 2) w14 hcode (by omega)
  rw [hsl] at hnum
  have hnlt := numL_lt (segL (preL kd body) 44 2)
  rw [hsl] at hnlt
  generalize numL (segL (preL kd body) 44 2) = nn at hnum hnlt hdr
  clear hsl hcode
  have m0 := hRd.out.c2 hM.out.code 232 rfl
  have mf := hRd.out.free 232
  go_wp2_with fail
  refine Calls.mono (show Calls Tryd.prog 43 #[.slice (some ⟨b, o + 44, none⟩) 2 (c - 44)] w14 _ from hnum) ?_
  rintro e w' ⟨rfl, rfl⟩
  clear hnum
  go_upto_region 24 with fail
  clear m0 mf
  have hRd2 := hRd.out.set1 230 (.int .i64 (nn : Int)) 232 rfl
  have hFr2 := hFr.out.keepR (Keep.set (fun k => k = R) R 232 (.int .i64 (nn : Int)) rfl) hRne
  have hM2 := hM.out.set_code (nn : Int)
  clear hRd hFr hM
  generalize (w14.setCell ⟨R, 232, none⟩ (.int .i64 (nn : Int))) = w15 at hRd2 hFr2 ⊢
  obtain ⟨CS15, hCS2⟩ : ∃ x, x = setRange CS13 230 [.int .i64 (nn : Int)] := ⟨_, rfl⟩
  rw [← hCS2] at hRd2 hM2
  clear hCS2 CS13
  have l1 := hRd2.c1
  have hRd := Lib.hid hRd2
  have hFr := Lib.hid hFr2
  have hM := Lib.hid hM2
  clear hRd2 hFr2 hM2
  have p232 := hRd.out.c2 hM.out.code 232 rfl
  replace p232 : w15.cell? ⟨R, 232, none⟩ = some (.int .i64 (nn : Int)) := p232
  by_cases hz : nn = 0
  · have hP := Lib.hid ((ifF_yes hdr.out hz).symm)
    clear hdr
    go_wp2_with fail
    refine (need_no kCode 44 1 _ _ (by subst hz; rfl)).mono ?_
    rintro e w16 ⟨q, rfl, hq, hF, hBn⟩
    have hFr2 := hFr.out.on hBn
    have hq2 : w.heap.size + 2 ≤ q := Nat.le_trans (Nat.le_trans hRne (Nat.le_of_lt hRd.out.lt)) hq
    replace hF := Lib.hid hF
    clear hRd hM hBn hq hFr p232
    have hFr := hFr2
    obtain ⟨hZ3, hE3, hB33⟩ := hFr
    have ce : w16.cell? ⟨w.heap.size + 1, 0, none⟩ = some .nilIface := cell_of hE3 rfl
    have cf : w16.frozen? ⟨w.heap.size + 1, 0, none⟩ = false := free_of hE3
    replace hE3 := Lib.hid hE3
    replace hZ3 := Lib.hid hZ3
    replace hB33 := Lib.hid hB33
    go_wp2_with fail
    have hEf := cell_of (heap_set (o := 0) hE3.out (errOf q)) (off := 0) rfl
    have hKf : Keep (fun k => k = w.heap.size + 1) w16 (w16.setCell ⟨w.heap.size + 1, 0, none⟩ (errOf q)) := Keep.set (fun k => k = w.heap.size + 1) _ _ _ rfl
    have hZf := hKf.heap (show ¬ w.heap.size = w.heap.size + 1 by omega) hZ3.out
    have hFf := hKf.heap (show ¬ q = w.heap.size + 1 by omega) hF.out
    have hBf := below_keep hB33.out hKf (fun i e => by omega) hB33.out.size
    have hif : (Tryd.prog.info? 36).map (·.size) = some Tryd.zeroCells36.size := by kernel_rfl
    have hL := run_loadVar_row (P := Tryd.prog) _ w.heap.size 36 36 _ (0, 0) _ hZf Tryd.underlying36 rfl hif
    have hL2 : (loadVar 38 ⟨w.heap.size + 1, 0, none⟩).run Tryd.prog (w16.setCell ⟨w.heap.size + 1, 0, none⟩ (errOf q)) = .ok (errOf q) (w16.setCell ⟨w.heap.size + 1, 0, none⟩ (errOf q)) := by simp [go_sem, hEf]
    refine leaves_cons (f := 36) (args := #[.pointer (some ⟨w.heap.size + 1, 0, none⟩)]) (by simp) (by simp [go_sem]) ?_
    refine (caught_panicking ⟨w.heap.size + 1, 0, none⟩ q .nilIface [] _ ce cf).mono ?_
    rintro e u' w'' ⟨rfl, rfl, rfl⟩
    exact ⟨_, results_cell2 rfl _ _ ⟨w.heap.size, 0, none⟩ ⟨w.heap.size + 1, 0, none⟩ (.agg Tryd.zeroCells36) (errOf q) rfl rfl hL hL2, DecPost.bad hP.out ⟨q, rfl, hFf, hBf⟩⟩

  replace hdr := Lib.hid (ifF_no hdr.out hz)
  have hbne : ((nn : Int) != 0) = true := by simp; omega
  go_wp2_with fail

  refine (need_same _ _ _ _).mono ?_
  rintro e w16 ⟨rfl, rfl⟩
  clear p232 hbne
  have l0 := hRd.out.c0
  by_cases hT : ¬ (46 = Q)
  · have hP := Lib.hid (tailF_bad hdr.out (by rw [hpl]; exact hT))
    clear hdr
    have hq3 : w.heap.size + 2 ≤ w16.drew.heap.size := Nat.le_trans hRne (Nat.le_of_lt hRd.out.lt)
    have hFr2 : FrD w w16.drew := hFr.out.on (Below.refl _ _).drew
    clear hRd hM hFr
    go_wp2_with fail
    go_still_tail 14, (by kernel_rfl)
    change wpList _ _ _ _ _ w16.drew
    generalize w16.drew = w17 at hFr2 hq3 ⊢
    clear l0 l1
    have hFr := Lib.hid hFr2
    clear hFr2
    go_wp2_with fail
    refine (need_no kTail 46 104 _ _ (decide_eq_false (by omega))).mono ?_
    rintro e w18 ⟨q, rfl, hq, hF, hBn⟩
    replace hFr := hFr.out.on hBn
    have hq2 : w.heap.size + 2 ≤ q := Nat.le_trans hq3 hq
    replace hF := Lib.hid hF
    clear hBn hq hq3
    obtain ⟨hZ3, hE3, hB33⟩ := hFr
    have ce : w18.cell? ⟨w.heap.size + 1, 0, none⟩ = some .nilIface := cell_of hE3 rfl
    have cf : w18.frozen? ⟨w.heap.size + 1, 0, none⟩ = false := free_of hE3
    replace hE3 := Lib.hid hE3
    replace hZ3 := Lib.hid hZ3
    replace hB33 := Lib.hid hB33
    go_wp2_with fail
    have hEf := cell_of (heap_set (o := 0) hE3.out (errOf q)) (off := 0) rfl
    have hKf : Keep (fun k => k = w.heap.size + 1) w18 (w18.setCell ⟨w.heap.size + 1, 0, none⟩ (errOf q)) := Keep.set (fun k => k = w.heap.size + 1) _ _ _ rfl
    have hZf := hKf.heap (show ¬ w.heap.size = w.heap.size + 1 by omega) hZ3.out
    have hFf := hKf.heap (show ¬ q = w.heap.size + 1 by omega) hF.out
    have hBf := below_keep hB33.out hKf (fun i e => by omega) hB33.out.size
    have hif : (Tryd.prog.info? 36).map (·.size) = some Tryd.zeroCells36.size := by kernel_rfl
    have hL := run_loadVar_row (P := Tryd.prog) _ w.heap.size 36 36 _ (0, 0) _ hZf Tryd.underlying36 rfl hif
    have hL2 : (loadVar 38 ⟨w.heap.size + 1, 0, none⟩).run Tryd.prog (w18.setCell ⟨w.heap.size + 1, 0, none⟩ (errOf q)) = .ok (errOf q) (w18.setCell ⟨w.heap.size + 1, 0, none⟩ (errOf q)) := by simp [go_sem, hEf]
    refine leaves_cons (f := 36) (args := #[.pointer (some ⟨w.heap.size + 1, 0, none⟩)]) (by simp) (by simp [go_sem]) ?_
    refine (caught_panicking ⟨w.heap.size + 1, 0, none⟩ q .nilIface [] _ ce cf).mono ?_
    rintro e u' w'' ⟨rfl, rfl, rfl⟩
    exact ⟨_, results_cell2 rfl _ _ ⟨w.heap.size, 0, none⟩ ⟨w.heap.size + 1, 0, none⟩ (.agg Tryd.zeroCells36) (errOf q) rfl rfl hL hL2, DecPost.bad hP.out ⟨q, rfl, hFf, hBf⟩⟩

  rw [Classical.not_not] at hT
  have hP := Lib.hid (tailF_ok hdr.out (by rw [hpl]; exact hT))
  clear hdr
  subst hT
  go_wp2_with fail
  go_quiet ((go_at_call 38; exact Calls.quiet_of_same (need_same _ _ _ _)))
  replace hRd := Lib.hid (hRd.out.drewN nq)
  replace hFr := hFr.out.on (below_drewN (Below.refl _ _) nq)
  clear l0 l1
  generalize w16.drewN nq = w17 at hRd hFr ⊢
  obtain ⟨hZq, hEq, hBq⟩ := hFr
  go_upto_region 28 with fail
  have hrng : ∀ j v, CS15[j]? = some v → w17.cell? ⟨R, 2 + j, none⟩ = some v := fun j v h => hRd.out.c2 h _ rfl
  have hif : (Tryd.prog.info? 36).map (·.size) = some CS15.size := by rw [hM.out.size]; kernel_rfl
  have hz36 : Tryd.zeroCells36.size = CS15.size := by rw [hM.out.size]; exact zC_size
  have hone : CS15.all (·.oneCell') = true := hM.out.one rfl rfl
  have hsW := setRow_keep w17 w.heap.size CS15
  have hE18 := hsW.heap (show ¬ w.heap.size + 1 = w.heap.size by omega) hEq
  have hD18 := setRow_heap w17 w.heap.size _ CS15 _ _ hZq
  have hB18 := below_keep hBq hsW (fun i e => by omega) hBq.size
  have ge1 : (w17.setRow w.heap.size CS15).cell? ⟨w.heap.size + 1, 0, none⟩ = some .nilIface := cell_of hE18 rfl
  have gf1 : (w17.setRow w.heap.size CS15).frozen? ⟨w.heap.size + 1, 0, none⟩ = false := free_of hE18
  replace hrng := Lib.hid hrng
  replace hD18 := Lib.hid hD18
  replace hB18 := Lib.hid hB18
  replace hE18 := Lib.hid hE18
  replace hZq := Lib.hid hZq
  clear hEq hBq hsW hRd
  go_wp2_with (first | (refine wpList_loadM _ rfl _ _ rfl R 2 rfl CS15 hrng.out _ Tryd.underlying36 rfl hif ?_) | (refine wpList_storeW _ rfl _ _ _ rfl w.heap.size CS15 rfl rfl _ _ hZq.out hif hz36 hone ?_))
  have hKz : Keep (fun k => k = w.heap.size + 1) (w17.setRow w.heap.size CS15) ((w17.setRow w.heap.size CS15).setCell ⟨w.heap.size + 1, 0, none⟩ .nilIface) := Keep.set _ (w.heap.size + 1) 0 .nilIface rfl
  have hDz := hKz.heap (show ¬ w.heap.size = w.heap.size + 1 by omega) hD18.out
  have hEz : ((w17.setRow w.heap.size CS15).setCell ⟨w.heap.size + 1, 0, none⟩ .nilIface).cell? ⟨w.heap.size + 1, 0, none⟩ = some .nilIface := cell_of (heap_set hE18.out _) rfl
  have hBz := hB18.out.setCell (p := ⟨w.heap.size + 1, 0, none⟩) (Nat.le_succ _) .nilIface
  generalize (w17.setRow w.heap.size CS15).setCell ⟨w.heap.size + 1, 0, none⟩ .nilIface = wf at *
  have hL := run_loadVar_row (P := Tryd.prog) wf w.heap.size 36 36 CS15 (0, 0) _ hDz Tryd.underlying36 rfl hif
  have hL2 : (loadVar 38 ⟨w.heap.size + 1, 0, none⟩).run Tryd.prog wf = .ok .nilIface wf := by simp [go_sem, hEz]
  refine leaves_cons (f := 36) (args := #[.pointer (some ⟨w.heap.size + 1, 0, none⟩)]) (by simp) (by simp [go_sem]) ?_
  refine (caught_idle ⟨w.heap.size + 1, 0, none⟩ _).mono ?_
  rintro e u' w'' ⟨rfl, rfl, rfl⟩
  clear hDz
  exact ⟨_, results_cell2 rfl _ _ ⟨w.heap.size, 0, none⟩ ⟨w.heap.size + 1, 0, none⟩ (.agg CS15) .nilIface rfl rfl hL hL2, DecPost.ok hP.out ⟨CS15, none, 0, none, 0, rfl, hM.out, OwnP.nil _ _, OwnB.nil _ _, PairsOk.nil, hBz⟩⟩

set_option maxHeartbeats 16000000 in
theorem decode_k6 (b o c : Nat) (kd : UInt8) (body s4 : List UInt8) (w : World) (N L Q : Nat) (hk1 : 1 ≤ nb kd) (hk6 : nb kd ≤ 6) (hN : body.length = N) (hNm : N ≤ 1065189) (h4 : s4.length = 4) (hLd : 14 + N = L) (hQd : 10 + N = Q) (hc : L ≤ c) (hlt : b < w.heap.size) (hkd : nb kd = 6) (hsum4 : s4 = (sha (preL kd body)).take 4) (hb : Bs w (some ⟨b, o, none⟩) (preL kd body ++ s4)) (dr : DR) (hdr : bodyF kd (preL kd body) = dr) :
    Calls Tryd.prog 11 #[.slice (some ⟨b, o, none⟩) L c] w (DecPost w dr) := by
  have hpl : (preL kd body).length = Q := by rw [preL_len]; omega
  unfold bodyF at hdr
  replace hdr := Lib.hid hdr
  replace hb := Lib.hid hb
  go_enter_defers Tryd.func11, Tryd.ntmps11
  go_upto_region 2 with fail
  have hZ : ((w.alloc (.cells Tryd.zeroCells36 36)).alloc (.cells #[.nilIface] 38)).heap[w.heap.size]? = some (.cells Tryd.zeroCells36 36 (0, 0)) := by
    rw [heap_alloc?, if_neg (by simp)]; exact heap_alloc_new w _
  have hE : ((w.alloc (.cells Tryd.zeroCells36 36)).alloc (.cells #[.nilIface] 38)).heap[w.heap.size + 1]? = some (.cells #[.nilIface] 38 (0, 0)) := by
    rw [heap_alloc?, if_pos (by simp)]
  have hB : Below w.heap.size w ((w.alloc (.cells Tryd.zeroCells36 36)).alloc (.cells #[.nilIface] 38)) := later (boxed _ _) (boxed _ _)
  have hsz : ((w.alloc (.cells Tryd.zeroCells36 36)).alloc (.cells #[.nilIface] 38)).heap.size = w.heap.size + 2 := by simp
  generalize ((w.alloc (.cells Tryd.zeroCells36 36)).alloc (.cells #[.nilIface] 38)) = w1 at hZ hE hB hsz ⊢
  have hb1 := hb.out.on hB
  replace hZ := Lib.hid hZ
  replace hE := Lib.hid hE
  go_wp2_with fail
  have hpk := peek_frame b o c kd body s4 w1 N L hk1 hk6 hN hNm h4 hLd hc hb1
  rw [hkd] at hpk
  refine hpk.mono ?_
  rintro e w2 ⟨rfl, md, hw2⟩
  have hb2 : Bs w2 (some ⟨b, o, none⟩) (preL kd body ++ s4) := by rw [hw2]; exact hb1
  have hB2 : Below w.heap.size w w2 := by rw [hw2]; exact below_drewN hB md
  have hs2 : w2.heap.size = w.heap.size + 2 := by rw [hw2]; exact hsz
  have hZ2 : w2.heap[w.heap.size]? = some (.cells Tryd.zeroCells36 36 (0, 0)) := by rw [hw2]; exact hZ.out
  have hE2 : w2.heap[w.heap.size + 1]? = some (.cells #[.nilIface] 38 (0, 0)) := by rw [hw2]; exact hE.out
  have hbp : Bs w2 (some ⟨b, o, none⟩) (preL kd body) := by
    have h := hb2.take Q
    rw [List.take_append_of_le_length (by omega), List.take_of_length_le (by omega)] at h
    exact h
  replace hZ2 := Lib.hid hZ2
  replace hE2 := Lib.hid hE2
  replace hb2 := Lib.hid hb2
  replace hbp := Lib.hid hbp
  replace hB2 := Lib.hid hB2
  have hcQ : (Q : Int) ≤ (c : Int) := by omega
  have hcL : (L : Int) ≤ (c : Int) := by omega
  have hwQ : wrap64 ((L : Int) - 4) = (Q : Int) := by rw [IntWalk.wrap64_in _ ⟨by omega, by omega⟩]; omega
  have hq0 : (0 : Int) ≤ (Q : Int) := by omega
  have hL4 : L - 4 = Q := by omega
  have hL4i : (L : Int) - 4 = (Q : Int) := by omega
  clear hpk hw2 hZ hE hB hsz hb1 hb
  go_wp2_with fail
  refine (need_same _ _ _ _).mono ?_
  rintro e w' ⟨rfl, rfl⟩
  go_wp2_with fail
  refine (need_same _ _ _ _).mono ?_
  rintro e w2 ⟨rfl, rfl⟩
  go_wp2_with fail
  have hsum := sum1_any b o c (preL kd body) w2 (by omega) (by omega) hbp.out (by omega)
  rw [hpl] at hsum
  refine hsum.mono ?_
  rintro e w3 ⟨rfl, hB3⟩
  clear hsum
  rename_i hK
  have hs3 := hB3.size
  have hD := sha_length (preL kd body)
  have hb3 := hb2.out.on hB3
  have hfx : ∀ i, i < 4 → (preL kd body ++ s4).getD (Q + i) 0 = s4.getD i 0 := fun i hi => by
    rw [List.getD_eq_getElem?_getD, List.getElem?_append_right (by omega), hpl, show Q + i - Q = i from by omega, ← List.getD_eq_getElem?_getD]
  have hcl := fun i (hi : i < 4) => hb3.at (Q + i) (by simp [h4]; omega)
  have x0 : w3.cell? ⟨b, o + Q, none⟩ = some (B8 (s4.getD 0 0)) := by rw [← hfx 0 (by omega)]; exact hcl 0 (by omega)
  have x1 : w3.cell? ⟨b, o + Q + 1, none⟩ = some (B8 (s4.getD 1 0)) := by rw [← hfx 1 (by omega)]; exact hcl 1 (by omega)
  have x2 : w3.cell? ⟨b, o + Q + 2, none⟩ = some (B8 (s4.getD 2 0)) := by rw [← hfx 2 (by omega)]; exact hcl 2 (by omega)
  have x3 : w3.cell? ⟨b, o + Q + 3, none⟩ = some (B8 (s4.getD 3 0)) := by rw [← hfx 3 (by omega)]; exact hcl 3 (by omega)
  have hsz : ((sha (preL kd body)).map B8).toArray.size = 64 := by rw [List.size_toArray, List.length_map, hD]
  have hone : ((sha (preL kd body)).map B8).toArray.all (·.oneCell') = true := all_oneCell_toArray one_bytes
  have hget : ∀ i, i < 64 → ((sha (preL kd body)).map B8).toArray[i]? = some (B8 ((sha (preL kd body)).getD i 0)) := fun i hi => by
    rw [List.getElem?_toArray, List.getElem?_map, List.getD_eq_getElem?_getD, List.getElem?_eq_getElem (show i < (sha (preL kd body)).length by omega)]
    rfl
  clear hfx hcl hbp hb2
  replace hb3 := Lib.hid hb3
  have hZ3 := Lib.hid (heap_on hB3 hZ2.out)
  have hE3 := Lib.hid (heap_on hB3 hE2.out)
  have hB33 := Lib.hid (later' hB2.out hB3)
  clear hZ2 hE2 hB2 hB3
  refine hK _ _ ?_
  clear hK
  generalize ((sha (preL kd body)).map B8).toArray = DA at hsz hone hget ⊢
  generalize (sha (preL kd body)) = S at hget hD hsum4
  have hif : (Tryd.prog.info? 97).map (·.size) = some DA.size := by rw [hsz]; kernel_rfl
  refine wpList_value (w' := w3.alloc (.cells z64 97)) rfl (.pointer (some ⟨w3.heap.size, 0, none⟩)) (by kernel_rfl) ?_
  refine wpList_skips (w' := w3.alloc (.cells DA 97)) rfl ?_ ?_
  · have h := run_storeAt_new (P := Tryd.prog) w3 97 z64 DA hif (by rw [hsz]; rfl) hone
    show (Instr.storeAt 97 (.pointer (some ⟨w3.heap.size, 0, none⟩)) (.agg DA) >>= fun _ => pure Next.skip : Sem Next).run Tryd.prog _ = _
    simp only [Sem.run_bind, h, Result.andThen, Sem.run_pure]
  refine wpList_nil ?_
  simp only [Act.put]
  have hDn := heap_alloc_new w3 (.cells DA 97)
  have hB34 := boxed w3 (.cells DA 97)
  have y0 : (w3.alloc (.cells DA 97)).cell? ⟨w3.heap.size, 0, none⟩ = some (B8 (S.getD 0 0)) := cell_of hDn (hget 0 (by omega))
  have y1 : (w3.alloc (.cells DA 97)).cell? ⟨w3.heap.size, 1, none⟩ = some (B8 (S.getD 1 0)) := cell_of hDn (hget 1 (by omega))
  have y2 : (w3.alloc (.cells DA 97)).cell? ⟨w3.heap.size, 2, none⟩ = some (B8 (S.getD 2 0)) := cell_of hDn (hget 2 (by omega))
  have y3 : (w3.alloc (.cells DA 97)).cell? ⟨w3.heap.size, 3, none⟩ = some (B8 (S.getD 3 0)) := cell_of hDn (hget 3 (by omega))
  replace x0 := cell_on hB34 x0
  replace x1 := cell_on hB34 x1
  replace x2 := cell_on hB34 x2
  replace x3 := cell_on hB34 x3
  have hb4 := Lib.hid (hb3.out.on hB34)
  have hZ4 := Lib.hid (heap_on hB34 hZ3.out)
  have hE4 := Lib.hid (heap_on hB34 hE3.out)
  have hB44 := Lib.hid (later' hB33.out hB34)
  have hs4 : (w3.alloc (.cells DA 97)).heap.size = w3.heap.size + 1 := by simp
  clear hDn hB34 hget hone hif hsz hZ3 hE3 hB33 hb3
  generalize w3.alloc (.cells DA 97) = w4 at *
  have hqq : ∀ i, i < 4 → s4.getD i 0 = S.getD i 0 := fun i hi => by rw [hsum4, getD_take _ hi]
  rw [hqq 0 (by omega)] at x0
  rw [hqq 1 (by omega)] at x1
  rw [hqq 2 (by omega)] at x2
  rw [hqq 3 (by omega)] at x3
  clear hqq hD
  clear hsum4
  generalize S.getD 0 0 = q0 at *
  generalize S.getD 1 0 = q1 at *
  generalize S.getD 2 0 = q2 at *
  generalize S.getD 3 0 = q3 at *
  have ha4 := arrAt4
  have he4 := eql4_same q0 q1 q2 q3
  have hc1 : ¬ (c = Q) := by omega
  have hwQ2 : IntKind.i64.wrap (Q : Int) = (Q : Int) := by rw [IntKind.wrap_i64]; omega
  have hc2 : (4 : Int) ≤ ((c - Q : Nat) : Int) := by omega
  have hLQ : L - Q = 4 := by omega
  have hQL : (Q : Int) ≤ (L : Int) := by omega
  go_wp2_with fail
  go_quiet ((go_at_call 38; exact Calls.quiet_of_same (need_same _ _ _ _)))
  have hb5 : Bs (w4.drewN nq) (some ⟨b, o, none⟩) (preL kd body) := by
    have h := (Bs.drewN hb4.out nq).take Q
    rw [List.take_append_of_le_length (by omega), List.take_of_length_le (by omega)] at h
    exact h
  have hFr5 : FrD w (w4.drewN nq) := ⟨hZ4.out, hE4.out, below_drewN hB44.out nq⟩
  have hs5 : w.heap.size + 2 ≤ (w4.drewN nq).heap.size := by simp only [World.heap_drewN]; omega
  clear hb4 hZ4 hE4 hB44 hs4 x0 x1 x2 x3 y0 y1 y2 y3 he4 ha4
  generalize w4.drewN nq = w5 at hb5 hFr5 hs5 ⊢
  replace hb5 := Lib.hid hb5
  replace hFr5 := Lib.hid hFr5
  go_upto_region 8 with fail
  have hRd := RdM.made w5 b o Q c (preL kd body) hb5.out hpl (by omega) (by omega) (by omega) (by omega)
  have hFr := hFr5.out.on (boxed w5 (.cells ((Tryd.zeroCells107.setIfInBounds 0 (.slice (some ⟨b, o, none⟩) Q c)).setIfInBounds 1 (.int .i64 10)) 107))
  have hR2 : w.heap.size + 2 ≤ w5.heap.size := hs5
  clear hb5 hFr5 hs5 hcQ hcL hwQ hq0 hL4 hL4i hwQ2 hc2 hLQ hQL hc1
  generalize hRe : w5.heap.size = R at hRd hR2 ⊢
  generalize w5.alloc (.cells ((Tryd.zeroCells107.setIfInBounds 0 (.slice (some ⟨b, o, none⟩) Q c)).setIfInBounds 1 (.int .i64 10)) 107) = w6 at hRd hFr ⊢
  have hRne : w.heap.size + 2 ≤ R := hR2
  have hM := Lib.hid zC_msg
  obtain ⟨CS0, hCS⟩ : ∃ x, x = Tryd.zeroCells36 := ⟨_, rfl⟩
  rw [← hCS] at hRd hM
  clear hCS
  have l2 := hRd.c2 hM.out.kind 2 rfl
  have lf := hRd.free 2
  replace hRd := Lib.hid hRd
  replace hFr := Lib.hid hFr
  go_upto_region 9 with fail
  clear l2 lf
  have hRd2 := hRd.out.set1 0 (.int .i64 6) 2 rfl
  have hFr2 := hFr.out.keepR (Keep.set (fun k => k = R) R 2 (.int .i64 6) rfl) hRne
  have hM2 := hM.out.set_kind 6
  clear hRd hFr hM
  generalize (w6.setCell ⟨R, 2, none⟩ (.int .i64 6)) = w7 at hRd2 hFr2 ⊢
  obtain ⟨CS7, hCS2⟩ : ∃ x, x = setRange CS0 0 [.int .i64 6] := ⟨_, rfl⟩
  rw [← hCS2] at hRd2 hM2
  clear hCS2 CS0
  have l1 := hRd2.c1
  have hRd := Lib.hid hRd2
  have hFr := Lib.hid hFr2
  have hM := Lib.hid hM2
  clear hRd2 hFr2 hM2
  go_wp2_with fail
  by_cases hltw7 : Q < 10 + 32
  · have hP := Lib.hid (takeF_bad hdr.out (by rw [hpl]; exact hltw7))
    clear hdr
    refine (take_rd_short hRd.out 32 kSession _ hltw7 (by omega)).mono ?_
    rintro e w8 ⟨q, rfl, hq, hF, hK⟩
    have hFr := hFr.out.keepR hK hRne
    have hq2 : w.heap.size + 2 ≤ q := Nat.le_trans (Nat.le_trans hRne (Nat.le_of_lt hRd.out.lt)) hq
    replace hF := Lib.hid hF
    clear hRd hM hK hq
    obtain ⟨hZ3, hE3, hB33⟩ := hFr
    have ce : w8.cell? ⟨w.heap.size + 1, 0, none⟩ = some .nilIface := cell_of hE3 rfl
    have cf : w8.frozen? ⟨w.heap.size + 1, 0, none⟩ = false := free_of hE3
    replace hE3 := Lib.hid hE3
    replace hZ3 := Lib.hid hZ3
    replace hB33 := Lib.hid hB33
    go_wp2_with fail
    have hEf := cell_of (heap_set (o := 0) hE3.out (errOf q)) (off := 0) rfl
    have hKf : Keep (fun k => k = w.heap.size + 1) w8 (w8.setCell ⟨w.heap.size + 1, 0, none⟩ (errOf q)) := Keep.set (fun k => k = w.heap.size + 1) _ _ _ rfl
    have hZf := hKf.heap (show ¬ w.heap.size = w.heap.size + 1 by omega) hZ3.out
    have hFf := hKf.heap (show ¬ q = w.heap.size + 1 by omega) hF.out
    have hBf := below_keep hB33.out hKf (fun i e => by omega) hB33.out.size
    have hif : (Tryd.prog.info? 36).map (·.size) = some Tryd.zeroCells36.size := by kernel_rfl
    have hL := run_loadVar_row (P := Tryd.prog) _ w.heap.size 36 36 _ (0, 0) _ hZf Tryd.underlying36 rfl hif
    have hL2 : (loadVar 38 ⟨w.heap.size + 1, 0, none⟩).run Tryd.prog (w8.setCell ⟨w.heap.size + 1, 0, none⟩ (errOf q)) = .ok (errOf q) (w8.setCell ⟨w.heap.size + 1, 0, none⟩ (errOf q)) := by simp [go_sem, hEf]
    refine leaves_cons (f := 36) (args := #[.pointer (some ⟨w.heap.size + 1, 0, none⟩)]) (by simp) (by simp [go_sem]) ?_
    refine (caught_panicking ⟨w.heap.size + 1, 0, none⟩ q .nilIface [] _ ce cf).mono ?_
    rintro e u' w'' ⟨rfl, rfl, rfl⟩
    exact ⟨_, results_cell2 rfl _ _ ⟨w.heap.size, 0, none⟩ ⟨w.heap.size + 1, 0, none⟩ (.agg Tryd.zeroCells36) (errOf q) rfl rfl hL hL2, DecPost.bad hP.out ⟨q, rfl, hFf, hBf⟩⟩

  replace hdr := Lib.hid (takeF_ok hdr.out (by rw [hpl]; omega))
  refine (take_rd hRd.out 32 _ _ (by omega)).mono ?_
  rintro e w8 ⟨rfl, hRd2, hK⟩
  replace hFr := Lib.hid (hFr.out.keepR hK hRne)
  replace hRd : Hid (RdM w8 R b o Q c 42 (preL kd body) CS7) := Lib.hid hRd2
  have hsl := segL_len (l := preL kd body) (at_ := 10) (n := 32) (by rw [hpl]; omega)
  clear hRd2 hK l1
  have hss := hRd.out.seg 10 32
  obtain ⟨sg, hsgd⟩ : ∃ x, x = segL (preL kd body) 10 32 := ⟨_, rfl⟩
  rw [← hsgd] at hss hsl hdr
  clear hsgd
  rename_i hK
  refine hK _ _ ?_
  clear hK
  refine wpList_value (w' := w8) rfl (.pointer (some ⟨b, o + 10, none⟩)) (by
    show (Instr.arrayAt 26 (.slice (some ⟨b, o + 10, none⟩) 32 (c - 10)) >>= fun v => pure (Next.value v) : Sem Next).run Tryd.prog w8 = _
    simp only [Sem.run_bind, arrAt32, Result.andThen, Sem.run_pure]) ?_
  have hif : (Tryd.prog.info? 26).map (·.size) = some (sg.map B8).length := by rw [List.length_map, hsl]; kernel_rfl
  refine wpList_load_mid rfl _ _ rfl b (o + 10) rfl (sg.map B8) _ hss.range Tryd.underlying26 rfl hif ?_
  have hif2 : (Tryd.prog.info? 26).map (·.size) = some (sg.map B8).toArray.size := by rw [List.size_toArray]; exact hif
  have hone : (sg.map B8).toArray.all (·.oneCell') = true := all_oneCell_toArray one_bytes
  have hsL : (sg.map B8).toArray.toList = sg.map B8 := rfl
  have hssz : (sg.map B8).toArray.size = 32 := by simp [hsl]
  generalize (sg.map B8).toArray = SA at hif2 hone hsL hssz ⊢
  have hth := hRd.out.there 3 SA.size (by rw [hM.out.size, hssz]; omega)
  clear hss hif
  go_upto_region 10 with (refine wpList_store_mid rfl _ _ _ rfl R 3 SA rfl rfl hth hif2 hone ?_)
  try rw [hsL]
  clear hth hif2 hone hsL hssz
  have hRd2 := hRd.out.setN 1 (sg.map B8) 3 rfl
  have hFr2 := hFr.out.keepR (setCells_keep w8 R 3 (sg.map B8)) hRne
  have hM2 := hM.out.set_session sg hsl
  clear hRd hFr hM
  generalize (w8.setCells R 3 (sg.map B8)) = w9 at hRd2 hFr2 ⊢
  obtain ⟨CS9, hCS2⟩ : ∃ x, x = setRange CS7 1 (sg.map B8) := ⟨_, rfl⟩
  rw [← hCS2] at hRd2 hM2
  clear hCS2 CS7
  have l1 := hRd2.c1
  have hRd := Lib.hid hRd2
  have hFr := Lib.hid hFr2
  have hM := Lib.hid hM2
  clear hRd2 hFr2 hM2
  go_wp2_with fail
  by_cases hltw9 : Q < 42 + 1
  · have hP := Lib.hid (takeF_bad hdr.out (by rw [hpl]; exact hltw9))
    clear hdr
    refine (take_rd_short hRd.out 1 kFrom _ hltw9 (by omega)).mono ?_
    rintro e w10 ⟨q, rfl, hq, hF, hK⟩
    have hFr := hFr.out.keepR hK hRne
    have hq2 : w.heap.size + 2 ≤ q := Nat.le_trans (Nat.le_trans hRne (Nat.le_of_lt hRd.out.lt)) hq
    replace hF := Lib.hid hF
    clear hRd hM hK hq
    obtain ⟨hZ3, hE3, hB33⟩ := hFr
    have ce : w10.cell? ⟨w.heap.size + 1, 0, none⟩ = some .nilIface := cell_of hE3 rfl
    have cf : w10.frozen? ⟨w.heap.size + 1, 0, none⟩ = false := free_of hE3
    replace hE3 := Lib.hid hE3
    replace hZ3 := Lib.hid hZ3
    replace hB33 := Lib.hid hB33
    go_wp2_with fail
    have hEf := cell_of (heap_set (o := 0) hE3.out (errOf q)) (off := 0) rfl
    have hKf : Keep (fun k => k = w.heap.size + 1) w10 (w10.setCell ⟨w.heap.size + 1, 0, none⟩ (errOf q)) := Keep.set (fun k => k = w.heap.size + 1) _ _ _ rfl
    have hZf := hKf.heap (show ¬ w.heap.size = w.heap.size + 1 by omega) hZ3.out
    have hFf := hKf.heap (show ¬ q = w.heap.size + 1 by omega) hF.out
    have hBf := below_keep hB33.out hKf (fun i e => by omega) hB33.out.size
    have hif : (Tryd.prog.info? 36).map (·.size) = some Tryd.zeroCells36.size := by kernel_rfl
    have hL := run_loadVar_row (P := Tryd.prog) _ w.heap.size 36 36 _ (0, 0) _ hZf Tryd.underlying36 rfl hif
    have hL2 : (loadVar 38 ⟨w.heap.size + 1, 0, none⟩).run Tryd.prog (w10.setCell ⟨w.heap.size + 1, 0, none⟩ (errOf q)) = .ok (errOf q) (w10.setCell ⟨w.heap.size + 1, 0, none⟩ (errOf q)) := by simp [go_sem, hEf]
    refine leaves_cons (f := 36) (args := #[.pointer (some ⟨w.heap.size + 1, 0, none⟩)]) (by simp) (by simp [go_sem]) ?_
    refine (caught_panicking ⟨w.heap.size + 1, 0, none⟩ q .nilIface [] _ ce cf).mono ?_
    rintro e u' w'' ⟨rfl, rfl, rfl⟩
    exact ⟨_, results_cell2 rfl _ _ ⟨w.heap.size, 0, none⟩ ⟨w.heap.size + 1, 0, none⟩ (.agg Tryd.zeroCells36) (errOf q) rfl rfl hL hL2, DecPost.bad hP.out ⟨q, rfl, hFf, hBf⟩⟩

  replace hdr := Lib.hid (takeF_ok hdr.out (by rw [hpl]; omega))
  refine (take_rd hRd.out 1 _ _ (by omega)).mono ?_
  rintro e w10 ⟨rfl, hRd2, hK⟩
  replace hFr := Lib.hid (hFr.out.keepR hK hRne)
  replace hRd : Hid (RdM w10 R b o Q c 43 (preL kd body) CS9) := Lib.hid hRd2
  have hsl := segL_len (l := preL kd body) (at_ := 42) (n := 1) (by rw [hpl]; omega)
  clear hRd2 hK l1
  have x0 := hRd.out.cell (j := 42) (by omega) (o + 42) rfl
  have e0 : (segL (preL kd body) 42 1).getD 0 0 = (preL kd body).getD 42 0 := segL_getD _ _ _ 0 (by decide)
  rw [e0] at hdr
  generalize (preL kd body).getD 42 0 = y10 at x0 hdr
  clear hsl e0
  have m0 := hRd.out.c2 hM.out.from_ 35 rfl
  have mf := hRd.out.free 35
  have hwf : IntKind.i64.wrap (nb y10) = nb y10 := by have := nb_bd y10; rw [IntKind.wrap_i64]; omega
  have hwf2 : wrap64 (nb y10) = nb y10 := by have := nb_bd y10; exact IntWalk.wrap64_in _ ⟨by omega, by omega⟩
  go_upto_region 11 with fail
  clear x0 m0 mf hwf hwf2
  have hRd2 := hRd.out.set1 33 (.int .i64 (nb y10)) 35 rfl
  have hFr2 := hFr.out.keepR (Keep.set (fun k => k = R) R 35 (.int .i64 (nb y10)) rfl) hRne
  have hM2 := hM.out.set_from_ (nb y10)
  clear hRd hFr hM
  generalize (w10.setCell ⟨R, 35, none⟩ (.int .i64 (nb y10))) = w11 at hRd2 hFr2 ⊢
  obtain ⟨CS11, hCS2⟩ : ∃ x, x = setRange CS9 33 [.int .i64 (nb y10)] := ⟨_, rfl⟩
  rw [← hCS2] at hRd2 hM2
  clear hCS2 CS9
  have l1 := hRd2.c1
  have hRd := Lib.hid hRd2
  have hFr := Lib.hid hFr2
  have hM := Lib.hid hM2
  clear hRd2 hFr2 hM2
  go_wp2_with fail
  by_cases hltw11 : Q < 43 + 1
  · have hP := Lib.hid (takeF_bad hdr.out (by rw [hpl]; exact hltw11))
    clear hdr
    refine (take_rd_short hRd.out 1 kTo _ hltw11 (by omega)).mono ?_
    rintro e w12 ⟨q, rfl, hq, hF, hK⟩
    have hFr := hFr.out.keepR hK hRne
    have hq2 : w.heap.size + 2 ≤ q := Nat.le_trans (Nat.le_trans hRne (Nat.le_of_lt hRd.out.lt)) hq
    replace hF := Lib.hid hF
    clear hRd hM hK hq
    obtain ⟨hZ3, hE3, hB33⟩ := hFr
    have ce : w12.cell? ⟨w.heap.size + 1, 0, none⟩ = some .nilIface := cell_of hE3 rfl
    have cf : w12.frozen? ⟨w.heap.size + 1, 0, none⟩ = false := free_of hE3
    replace hE3 := Lib.hid hE3
    replace hZ3 := Lib.hid hZ3
    replace hB33 := Lib.hid hB33
    go_wp2_with fail
    have hEf := cell_of (heap_set (o := 0) hE3.out (errOf q)) (off := 0) rfl
    have hKf : Keep (fun k => k = w.heap.size + 1) w12 (w12.setCell ⟨w.heap.size + 1, 0, none⟩ (errOf q)) := Keep.set (fun k => k = w.heap.size + 1) _ _ _ rfl
    have hZf := hKf.heap (show ¬ w.heap.size = w.heap.size + 1 by omega) hZ3.out
    have hFf := hKf.heap (show ¬ q = w.heap.size + 1 by omega) hF.out
    have hBf := below_keep hB33.out hKf (fun i e => by omega) hB33.out.size
    have hif : (Tryd.prog.info? 36).map (·.size) = some Tryd.zeroCells36.size := by kernel_rfl
    have hL := run_loadVar_row (P := Tryd.prog) _ w.heap.size 36 36 _ (0, 0) _ hZf Tryd.underlying36 rfl hif
    have hL2 : (loadVar 38 ⟨w.heap.size + 1, 0, none⟩).run Tryd.prog (w12.setCell ⟨w.heap.size + 1, 0, none⟩ (errOf q)) = .ok (errOf q) (w12.setCell ⟨w.heap.size + 1, 0, none⟩ (errOf q)) := by simp [go_sem, hEf]
    refine leaves_cons (f := 36) (args := #[.pointer (some ⟨w.heap.size + 1, 0, none⟩)]) (by simp) (by simp [go_sem]) ?_
    refine (caught_panicking ⟨w.heap.size + 1, 0, none⟩ q .nilIface [] _ ce cf).mono ?_
    rintro e u' w'' ⟨rfl, rfl, rfl⟩
    exact ⟨_, results_cell2 rfl _ _ ⟨w.heap.size, 0, none⟩ ⟨w.heap.size + 1, 0, none⟩ (.agg Tryd.zeroCells36) (errOf q) rfl rfl hL hL2, DecPost.bad hP.out ⟨q, rfl, hFf, hBf⟩⟩

  replace hdr := Lib.hid (takeF_ok hdr.out (by rw [hpl]; omega))
  refine (take_rd hRd.out 1 _ _ (by omega)).mono ?_
  rintro e w12 ⟨rfl, hRd2, hK⟩
  replace hFr := Lib.hid (hFr.out.keepR hK hRne)
  replace hRd : Hid (RdM w12 R b o Q c 44 (preL kd body) CS11) := Lib.hid hRd2
  have hsl := segL_len (l := preL kd body) (at_ := 43) (n := 1) (by rw [hpl]; omega)
  clear hRd2 hK l1
  have x0 := hRd.out.cell (j := 43) (by omega) (o + 43) rfl
  have e0 : (segL (preL kd body) 43 1).getD 0 0 = (preL kd body).getD 43 0 := segL_getD _ _ _ 0 (by decide)
  rw [e0] at hdr
  generalize (preL kd body).getD 43 0 = y12 at x0 hdr
  clear hsl e0
  have m0 := hRd.out.c2 hM.out.to_ 36 rfl
  have mf := hRd.out.free 36
  have hwf : IntKind.i64.wrap (nb y12) = nb y12 := by have := nb_bd y12; rw [IntKind.wrap_i64]; omega
  have hwf2 : wrap64 (nb y12) = nb y12 := by have := nb_bd y12; exact IntWalk.wrap64_in _ ⟨by omega, by omega⟩
  go_upto_region 12 with fail
  clear x0 m0 mf hwf hwf2
  have hRd2 := hRd.out.set1 34 (.int .i64 (nb y12)) 36 rfl
  have hFr2 := hFr.out.keepR (Keep.set (fun k => k = R) R 36 (.int .i64 (nb y12)) rfl) hRne
  have hM2 := hM.out.set_to_ (nb y12)
  clear hRd hFr hM
  generalize (w12.setCell ⟨R, 36, none⟩ (.int .i64 (nb y12))) = w13 at hRd2 hFr2 ⊢
  obtain ⟨CS13, hCS2⟩ : ∃ x, x = setRange CS11 34 [.int .i64 (nb y12)] := ⟨_, rfl⟩
  rw [← hCS2] at hRd2 hM2
  clear hCS2 CS11
  have l1 := hRd2.c1
  have hRd := Lib.hid hRd2
  have hFr := Lib.hid hFr2
  have hM := Lib.hid hM2
  clear hRd2 hFr2 hM2
  replace hdr := hdr.out
  rw [hkd] at hdr
  unfold restF at hdr
  rw [if_neg (by decide), if_neg (by decide), if_neg (by decide), if_neg (by decide), if_pos rfl] at hdr
  replace hdr := Lib.hid hdr
  go_wp2_with fail
  by_cases hltw13 : Q < 44 + 64
  · have hP := Lib.hid (takeF_bad hdr.out (by rw [hpl]; exact hltw13))
    clear hdr
    refine (take_rd_short hRd.out 64 kSig _ hltw13 (by omega)).mono ?_
    rintro e w14 ⟨q, rfl, hq, hF, hK⟩
    have hFr := hFr.out.keepR hK hRne
    have hq2 : w.heap.size + 2 ≤ q := Nat.le_trans (Nat.le_trans hRne (Nat.le_of_lt hRd.out.lt)) hq
    replace hF := Lib.hid hF
    clear hRd hM hK hq
    obtain ⟨hZ3, hE3, hB33⟩ := hFr
    have ce : w14.cell? ⟨w.heap.size + 1, 0, none⟩ = some .nilIface := cell_of hE3 rfl
    have cf : w14.frozen? ⟨w.heap.size + 1, 0, none⟩ = false := free_of hE3
    replace hE3 := Lib.hid hE3
    replace hZ3 := Lib.hid hZ3
    replace hB33 := Lib.hid hB33
    go_wp2_with fail
    have hEf := cell_of (heap_set (o := 0) hE3.out (errOf q)) (off := 0) rfl
    have hKf : Keep (fun k => k = w.heap.size + 1) w14 (w14.setCell ⟨w.heap.size + 1, 0, none⟩ (errOf q)) := Keep.set (fun k => k = w.heap.size + 1) _ _ _ rfl
    have hZf := hKf.heap (show ¬ w.heap.size = w.heap.size + 1 by omega) hZ3.out
    have hFf := hKf.heap (show ¬ q = w.heap.size + 1 by omega) hF.out
    have hBf := below_keep hB33.out hKf (fun i e => by omega) hB33.out.size
    have hif : (Tryd.prog.info? 36).map (·.size) = some Tryd.zeroCells36.size := by kernel_rfl
    have hL := run_loadVar_row (P := Tryd.prog) _ w.heap.size 36 36 _ (0, 0) _ hZf Tryd.underlying36 rfl hif
    have hL2 : (loadVar 38 ⟨w.heap.size + 1, 0, none⟩).run Tryd.prog (w14.setCell ⟨w.heap.size + 1, 0, none⟩ (errOf q)) = .ok (errOf q) (w14.setCell ⟨w.heap.size + 1, 0, none⟩ (errOf q)) := by simp [go_sem, hEf]
    refine leaves_cons (f := 36) (args := #[.pointer (some ⟨w.heap.size + 1, 0, none⟩)]) (by simp) (by simp [go_sem]) ?_
    refine (caught_panicking ⟨w.heap.size + 1, 0, none⟩ q .nilIface [] _ ce cf).mono ?_
    rintro e u' w'' ⟨rfl, rfl, rfl⟩
    exact ⟨_, results_cell2 rfl _ _ ⟨w.heap.size, 0, none⟩ ⟨w.heap.size + 1, 0, none⟩ (.agg Tryd.zeroCells36) (errOf q) rfl rfl hL hL2, DecPost.bad hP.out ⟨q, rfl, hFf, hBf⟩⟩

  replace hdr := Lib.hid (takeF_ok hdr.out (by rw [hpl]; omega))
  refine (take_rd hRd.out 64 _ _ (by omega)).mono ?_
  rintro e w14 ⟨rfl, hRd2, hK⟩
  replace hFr := Lib.hid (hFr.out.keepR hK hRne)
  replace hRd : Hid (RdM w14 R b o Q c 108 (preL kd body) CS13) := Lib.hid hRd2
  have hsl := segL_len (l := preL kd body) (at_ := 44) (n := 64) (by rw [hpl]; omega)
  clear hRd2 hK l1
  have hss := hRd.out.seg 44 64
  obtain ⟨sg, hsgd⟩ : ∃ x, x = segL (preL kd body) 44 64 := ⟨_, rfl⟩
  rw [← hsgd] at hss hsl hdr
  clear hsgd
  rename_i hK
  refine hK _ _ ?_
  clear hK
  refine wpList_value (w' := w14) rfl (.pointer (some ⟨b, o + 44, none⟩)) (by
    show (Instr.arrayAt 33 (.slice (some ⟨b, o + 44, none⟩) 64 (c - 44)) >>= fun v => pure (Next.value v) : Sem Next).run Tryd.prog w14 = _
    simp only [Sem.run_bind, arrAt64, Result.andThen, Sem.run_pure]) ?_
  have hif : (Tryd.prog.info? 33).map (·.size) = some (sg.map B8).length := by rw [List.length_map, hsl]; kernel_rfl
  refine wpList_load_mid rfl _ _ rfl b (o + 44) rfl (sg.map B8) _ hss.range Tryd.underlying33 rfl hif ?_
  have hif2 : (Tryd.prog.info? 33).map (·.size) = some (sg.map B8).toArray.size := by rw [List.size_toArray]; exact hif
  have hone : (sg.map B8).toArray.all (·.oneCell') = true := all_oneCell_toArray one_bytes
  have hsL : (sg.map B8).toArray.toList = sg.map B8 := rfl
  have hssz : (sg.map B8).toArray.size = 64 := by simp [hsl]
  generalize (sg.map B8).toArray = SA at hif2 hone hsL hssz ⊢
  have hth := hRd.out.there 168 SA.size (by rw [hM.out.size, hssz]; omega)
  clear hss hif
  go_upto_region 27 with (refine wpList_store_mid rfl _ _ _ rfl R 168 SA rfl rfl hth hif2 hone ?_)
  try rw [hsL]
  clear hth hif2 hone hsL hssz
  have hRd2 := hRd.out.setN 166 (sg.map B8) 168 rfl
  have hFr2 := hFr.out.keepR (setCells_keep w14 R 168 (sg.map B8)) hRne
  have hM2 := hM.out.set_sig sg hsl
  clear hRd hFr hM
  generalize (w14.setCells R 168 (sg.map B8)) = w15 at hRd2 hFr2 ⊢
  obtain ⟨CS15, hCS2⟩ : ∃ x, x = setRange CS13 166 (sg.map B8) := ⟨_, rfl⟩
  rw [← hCS2] at hRd2 hM2
  clear hCS2 CS13
  have l1 := hRd2.c1
  have hRd := Lib.hid hRd2
  have hFr := Lib.hid hFr2
  have hM := Lib.hid hM2
  clear hRd2 hFr2 hM2
  have l0 := hRd.out.c0
  by_cases hT : ¬ (108 = Q)
  · have hP := Lib.hid (tailF_bad hdr.out (by rw [hpl]; exact hT))
    clear hdr
    have hq3 : w.heap.size + 2 ≤ w15.drew.heap.size := Nat.le_trans hRne (Nat.le_of_lt hRd.out.lt)
    have hFr2 : FrD w w15.drew := hFr.out.on (Below.refl _ _).drew
    clear hRd hM hFr
    go_wp2_with fail
    go_still_tail 14, (by kernel_rfl)
    change wpList _ _ _ _ _ w15.drew
    generalize w15.drew = w16 at hFr2 hq3 ⊢
    clear l0 l1
    have hFr := Lib.hid hFr2
    clear hFr2
    go_wp2_with fail
    refine (need_no kTail 108 104 _ _ (decide_eq_false (by omega))).mono ?_
    rintro e w17 ⟨q, rfl, hq, hF, hBn⟩
    replace hFr := hFr.out.on hBn
    have hq2 : w.heap.size + 2 ≤ q := Nat.le_trans hq3 hq
    replace hF := Lib.hid hF
    clear hBn hq hq3
    obtain ⟨hZ3, hE3, hB33⟩ := hFr
    have ce : w17.cell? ⟨w.heap.size + 1, 0, none⟩ = some .nilIface := cell_of hE3 rfl
    have cf : w17.frozen? ⟨w.heap.size + 1, 0, none⟩ = false := free_of hE3
    replace hE3 := Lib.hid hE3
    replace hZ3 := Lib.hid hZ3
    replace hB33 := Lib.hid hB33
    go_wp2_with fail
    have hEf := cell_of (heap_set (o := 0) hE3.out (errOf q)) (off := 0) rfl
    have hKf : Keep (fun k => k = w.heap.size + 1) w17 (w17.setCell ⟨w.heap.size + 1, 0, none⟩ (errOf q)) := Keep.set (fun k => k = w.heap.size + 1) _ _ _ rfl
    have hZf := hKf.heap (show ¬ w.heap.size = w.heap.size + 1 by omega) hZ3.out
    have hFf := hKf.heap (show ¬ q = w.heap.size + 1 by omega) hF.out
    have hBf := below_keep hB33.out hKf (fun i e => by omega) hB33.out.size
    have hif : (Tryd.prog.info? 36).map (·.size) = some Tryd.zeroCells36.size := by kernel_rfl
    have hL := run_loadVar_row (P := Tryd.prog) _ w.heap.size 36 36 _ (0, 0) _ hZf Tryd.underlying36 rfl hif
    have hL2 : (loadVar 38 ⟨w.heap.size + 1, 0, none⟩).run Tryd.prog (w17.setCell ⟨w.heap.size + 1, 0, none⟩ (errOf q)) = .ok (errOf q) (w17.setCell ⟨w.heap.size + 1, 0, none⟩ (errOf q)) := by simp [go_sem, hEf]
    refine leaves_cons (f := 36) (args := #[.pointer (some ⟨w.heap.size + 1, 0, none⟩)]) (by simp) (by simp [go_sem]) ?_
    refine (caught_panicking ⟨w.heap.size + 1, 0, none⟩ q .nilIface [] _ ce cf).mono ?_
    rintro e u' w'' ⟨rfl, rfl, rfl⟩
    exact ⟨_, results_cell2 rfl _ _ ⟨w.heap.size, 0, none⟩ ⟨w.heap.size + 1, 0, none⟩ (.agg Tryd.zeroCells36) (errOf q) rfl rfl hL hL2, DecPost.bad hP.out ⟨q, rfl, hFf, hBf⟩⟩

  rw [Classical.not_not] at hT
  have hP := Lib.hid (tailF_ok hdr.out (by rw [hpl]; exact hT))
  clear hdr
  subst hT
  go_wp2_with fail
  go_quiet ((go_at_call 38; exact Calls.quiet_of_same (need_same _ _ _ _)))
  replace hRd := Lib.hid (hRd.out.drewN nq)
  replace hFr := hFr.out.on (below_drewN (Below.refl _ _) nq)
  clear l0 l1
  generalize w15.drewN nq = w16 at hRd hFr ⊢
  obtain ⟨hZq, hEq, hBq⟩ := hFr
  go_upto_region 28 with fail
  have hrng : ∀ j v, CS15[j]? = some v → w16.cell? ⟨R, 2 + j, none⟩ = some v := fun j v h => hRd.out.c2 h _ rfl
  have hif : (Tryd.prog.info? 36).map (·.size) = some CS15.size := by rw [hM.out.size]; kernel_rfl
  have hz36 : Tryd.zeroCells36.size = CS15.size := by rw [hM.out.size]; exact zC_size
  have hone : CS15.all (·.oneCell') = true := hM.out.one rfl rfl
  have hsW := setRow_keep w16 w.heap.size CS15
  have hE18 := hsW.heap (show ¬ w.heap.size + 1 = w.heap.size by omega) hEq
  have hD18 := setRow_heap w16 w.heap.size _ CS15 _ _ hZq
  have hB18 := below_keep hBq hsW (fun i e => by omega) hBq.size
  have ge1 : (w16.setRow w.heap.size CS15).cell? ⟨w.heap.size + 1, 0, none⟩ = some .nilIface := cell_of hE18 rfl
  have gf1 : (w16.setRow w.heap.size CS15).frozen? ⟨w.heap.size + 1, 0, none⟩ = false := free_of hE18
  replace hrng := Lib.hid hrng
  replace hD18 := Lib.hid hD18
  replace hB18 := Lib.hid hB18
  replace hE18 := Lib.hid hE18
  replace hZq := Lib.hid hZq
  clear hEq hBq hsW hRd
  go_wp2_with (first | (refine wpList_loadM _ rfl _ _ rfl R 2 rfl CS15 hrng.out _ Tryd.underlying36 rfl hif ?_) | (refine wpList_storeW _ rfl _ _ _ rfl w.heap.size CS15 rfl rfl _ _ hZq.out hif hz36 hone ?_))
  have hKz : Keep (fun k => k = w.heap.size + 1) (w16.setRow w.heap.size CS15) ((w16.setRow w.heap.size CS15).setCell ⟨w.heap.size + 1, 0, none⟩ .nilIface) := Keep.set _ (w.heap.size + 1) 0 .nilIface rfl
  have hDz := hKz.heap (show ¬ w.heap.size = w.heap.size + 1 by omega) hD18.out
  have hEz : ((w16.setRow w.heap.size CS15).setCell ⟨w.heap.size + 1, 0, none⟩ .nilIface).cell? ⟨w.heap.size + 1, 0, none⟩ = some .nilIface := cell_of (heap_set hE18.out _) rfl
  have hBz := hB18.out.setCell (p := ⟨w.heap.size + 1, 0, none⟩) (Nat.le_succ _) .nilIface
  generalize (w16.setRow w.heap.size CS15).setCell ⟨w.heap.size + 1, 0, none⟩ .nilIface = wf at *
  have hL := run_loadVar_row (P := Tryd.prog) wf w.heap.size 36 36 CS15 (0, 0) _ hDz Tryd.underlying36 rfl hif
  have hL2 : (loadVar 38 ⟨w.heap.size + 1, 0, none⟩).run Tryd.prog wf = .ok .nilIface wf := by simp [go_sem, hEz]
  refine leaves_cons (f := 36) (args := #[.pointer (some ⟨w.heap.size + 1, 0, none⟩)]) (by simp) (by simp [go_sem]) ?_
  refine (caught_idle ⟨w.heap.size + 1, 0, none⟩ _).mono ?_
  rintro e u' w'' ⟨rfl, rfl, rfl⟩
  clear hDz
  exact ⟨_, results_cell2 rfl _ _ ⟨w.heap.size, 0, none⟩ ⟨w.heap.size + 1, 0, none⟩ (.agg CS15) .nilIface rfl rfl hL hL2, DecPost.ok hP.out ⟨CS15, none, 0, none, 0, rfl, hM.out, OwnP.nil _ _, OwnB.nil _ _, PairsOk.nil, hBz⟩⟩

end Go.Proofs.YtmnmmabhmedioaaDoor
/- Wire: Decode of a frame whose sum fits: kinds 4. (Printed by gen_dec2.py.) -/
namespace Go.Proofs.YtmnmmabhmedioaaDoor
open Go.RowKit
set_option linter.unusedVariables false
set_option linter.unusedSimpArgs false
set_option maxRecDepth 100000

set_option maxHeartbeats 16000000 in
theorem decode_k4 (b o c : Nat) (kd : UInt8) (body s4 : List UInt8) (w : World) (N L Q : Nat) (hk1 : 1 ≤ nb kd) (hk6 : nb kd ≤ 6) (hN : body.length = N) (hNm : N ≤ 1065189) (h4 : s4.length = 4) (hLd : 14 + N = L) (hQd : 10 + N = Q) (hc : L ≤ c) (hlt : b < w.heap.size) (hkd : nb kd = 4) (hsum4 : s4 = (sha (preL kd body)).take 4) (hb : Bs w (some ⟨b, o, none⟩) (preL kd body ++ s4)) (dr : DR) (hdr : bodyF kd (preL kd body) = dr) :
    Calls Tryd.prog 11 #[.slice (some ⟨b, o, none⟩) L c] w (DecPost w dr) := by
  have hpl : (preL kd body).length = Q := by rw [preL_len]; omega
  unfold bodyF at hdr
  replace hdr := Lib.hid hdr
  replace hb := Lib.hid hb
  go_enter_defers Tryd.func11, Tryd.ntmps11
  go_upto_region 2 with fail
  have hZ : ((w.alloc (.cells Tryd.zeroCells36 36)).alloc (.cells #[.nilIface] 38)).heap[w.heap.size]? = some (.cells Tryd.zeroCells36 36 (0, 0)) := by
    rw [heap_alloc?, if_neg (by simp)]; exact heap_alloc_new w _
  have hE : ((w.alloc (.cells Tryd.zeroCells36 36)).alloc (.cells #[.nilIface] 38)).heap[w.heap.size + 1]? = some (.cells #[.nilIface] 38 (0, 0)) := by
    rw [heap_alloc?, if_pos (by simp)]
  have hB : Below w.heap.size w ((w.alloc (.cells Tryd.zeroCells36 36)).alloc (.cells #[.nilIface] 38)) := later (boxed _ _) (boxed _ _)
  have hsz : ((w.alloc (.cells Tryd.zeroCells36 36)).alloc (.cells #[.nilIface] 38)).heap.size = w.heap.size + 2 := by simp
  generalize ((w.alloc (.cells Tryd.zeroCells36 36)).alloc (.cells #[.nilIface] 38)) = w1 at hZ hE hB hsz ⊢
  have hb1 := hb.out.on hB
  replace hZ := Lib.hid hZ
  replace hE := Lib.hid hE
  go_wp2_with fail
  have hpk := peek_frame b o c kd body s4 w1 N L hk1 hk6 hN hNm h4 hLd hc hb1
  rw [hkd] at hpk
  refine hpk.mono ?_
  rintro e w2 ⟨rfl, md, hw2⟩
  have hb2 : Bs w2 (some ⟨b, o, none⟩) (preL kd body ++ s4) := by rw [hw2]; exact hb1
  have hB2 : Below w.heap.size w w2 := by rw [hw2]; exact below_drewN hB md
  have hs2 : w2.heap.size = w.heap.size + 2 := by rw [hw2]; exact hsz
  have hZ2 : w2.heap[w.heap.size]? = some (.cells Tryd.zeroCells36 36 (0, 0)) := by rw [hw2]; exact hZ.out
  have hE2 : w2.heap[w.heap.size + 1]? = some (.cells #[.nilIface] 38 (0, 0)) := by rw [hw2]; exact hE.out
  have hbp : Bs w2 (some ⟨b, o, none⟩) (preL kd body) := by
    have h := hb2.take Q
    rw [List.take_append_of_le_length (by omega), List.take_of_length_le (by omega)] at h
    exact h
  replace hZ2 := Lib.hid hZ2
  replace hE2 := Lib.hid hE2
  replace hb2 := Lib.hid hb2
  replace hbp := Lib.hid hbp
  replace hB2 := Lib.hid hB2
  have hcQ : (Q : Int) ≤ (c : Int) := by omega
  have hcL : (L : Int) ≤ (c : Int) := by omega
  have hwQ : wrap64 ((L : Int) - 4) = (Q : Int) := by rw [IntWalk.wrap64_in _ ⟨by omega, by omega⟩]; omega
  have hq0 : (0 : Int) ≤ (Q : Int) := by omega
  have hL4 : L - 4 = Q := by omega
  have hL4i : (L : Int) - 4 = (Q : Int) := by omega
  clear hpk hw2 hZ hE hB hsz hb1 hb
  go_wp2_with fail
  refine (need_same _ _ _ _).mono ?_
  rintro e w' ⟨rfl, rfl⟩
  go_wp2_with fail
  refine (need_same _ _ _ _).mono ?_
  rintro e w2 ⟨rfl, rfl⟩
  go_wp2_with fail
  have hsum := sum1_any b o c (preL kd body) w2 (by omega) (by omega) hbp.out (by omega)
  rw [hpl] at hsum
  refine hsum.mono ?_
  rintro e w3 ⟨rfl, hB3⟩
  clear hsum
  rename_i hK
  have hs3 := hB3.size
  have hD := sha_length (preL kd body)
  have hb3 := hb2.out.on hB3
  have hfx : ∀ i, i < 4 → (preL kd body ++ s4).getD (Q + i) 0 = s4.getD i 0 := fun i hi => by
    rw [List.getD_eq_getElem?_getD, List.getElem?_append_right (by omega), hpl, show Q + i - Q = i from by omega, ← List.getD_eq_getElem?_getD]
  have hcl := fun i (hi : i < 4) => hb3.at (Q + i) (by simp [h4]; omega)
  have x0 : w3.cell? ⟨b, o + Q, none⟩ = some (B8 (s4.getD 0 0)) := by rw [← hfx 0 (by omega)]; exact hcl 0 (by omega)
  have x1 : w3.cell? ⟨b, o + Q + 1, none⟩ = some (B8 (s4.getD 1 0)) := by rw [← hfx 1 (by omega)]; exact hcl 1 (by omega)
  have x2 : w3.cell? ⟨b, o + Q + 2, none⟩ = some (B8 (s4.getD 2 0)) := by rw [← hfx 2 (by omega)]; exact hcl 2 (by omega)
  have x3 : w3.cell? ⟨b, o + Q + 3, none⟩ = some (B8 (s4.getD 3 0)) := by rw [← hfx 3 (by omega)]; exact hcl 3 (by omega)
  have hsz : ((sha (preL kd body)).map B8).toArray.size = 64 := by rw [List.size_toArray, List.length_map, hD]
  have hone : ((sha (preL kd body)).map B8).toArray.all (·.oneCell') = true := all_oneCell_toArray one_bytes
  have hget : ∀ i, i < 64 → ((sha (preL kd body)).map B8).toArray[i]? = some (B8 ((sha (preL kd body)).getD i 0)) := fun i hi => by
    rw [List.getElem?_toArray, List.getElem?_map, List.getD_eq_getElem?_getD, List.getElem?_eq_getElem (show i < (sha (preL kd body)).length by omega)]
    rfl
  clear hfx hcl hbp hb2
  replace hb3 := Lib.hid hb3
  have hZ3 := Lib.hid (heap_on hB3 hZ2.out)
  have hE3 := Lib.hid (heap_on hB3 hE2.out)
  have hB33 := Lib.hid (later' hB2.out hB3)
  clear hZ2 hE2 hB2 hB3
  refine hK _ _ ?_
  clear hK
  generalize ((sha (preL kd body)).map B8).toArray = DA at hsz hone hget ⊢
  generalize (sha (preL kd body)) = S at hget hD hsum4
  have hif : (Tryd.prog.info? 97).map (·.size) = some DA.size := by rw [hsz]; kernel_rfl
  refine wpList_value (w' := w3.alloc (.cells z64 97)) rfl (.pointer (some ⟨w3.heap.size, 0, none⟩)) (by kernel_rfl) ?_
  refine wpList_skips (w' := w3.alloc (.cells DA 97)) rfl ?_ ?_
  · have h := run_storeAt_new (P := Tryd.prog) w3 97 z64 DA hif (by rw [hsz]; rfl) hone
    show (Instr.storeAt 97 (.pointer (some ⟨w3.heap.size, 0, none⟩)) (.agg DA) >>= fun _ => pure Next.skip : Sem Next).run Tryd.prog _ = _
    simp only [Sem.run_bind, h, Result.andThen, Sem.run_pure]
  refine wpList_nil ?_
  simp only [Act.put]
  have hDn := heap_alloc_new w3 (.cells DA 97)
  have hB34 := boxed w3 (.cells DA 97)
  have y0 : (w3.alloc (.cells DA 97)).cell? ⟨w3.heap.size, 0, none⟩ = some (B8 (S.getD 0 0)) := cell_of hDn (hget 0 (by omega))
  have y1 : (w3.alloc (.cells DA 97)).cell? ⟨w3.heap.size, 1, none⟩ = some (B8 (S.getD 1 0)) := cell_of hDn (hget 1 (by omega))
  have y2 : (w3.alloc (.cells DA 97)).cell? ⟨w3.heap.size, 2, none⟩ = some (B8 (S.getD 2 0)) := cell_of hDn (hget 2 (by omega))
  have y3 : (w3.alloc (.cells DA 97)).cell? ⟨w3.heap.size, 3, none⟩ = some (B8 (S.getD 3 0)) := cell_of hDn (hget 3 (by omega))
  replace x0 := cell_on hB34 x0
  replace x1 := cell_on hB34 x1
  replace x2 := cell_on hB34 x2
  replace x3 := cell_on hB34 x3
  have hb4 := Lib.hid (hb3.out.on hB34)
  have hZ4 := Lib.hid (heap_on hB34 hZ3.out)
  have hE4 := Lib.hid (heap_on hB34 hE3.out)
  have hB44 := Lib.hid (later' hB33.out hB34)
  have hs4 : (w3.alloc (.cells DA 97)).heap.size = w3.heap.size + 1 := by simp
  clear hDn hB34 hget hone hif hsz hZ3 hE3 hB33 hb3
  generalize w3.alloc (.cells DA 97) = w4 at *
  have hqq : ∀ i, i < 4 → s4.getD i 0 = S.getD i 0 := fun i hi => by rw [hsum4, getD_take _ hi]
  rw [hqq 0 (by omega)] at x0
  rw [hqq 1 (by omega)] at x1
  rw [hqq 2 (by omega)] at x2
  rw [hqq 3 (by omega)] at x3
  clear hqq hD
  clear hsum4
  generalize S.getD 0 0 = q0 at *
  generalize S.getD 1 0 = q1 at *
  generalize S.getD 2 0 = q2 at *
  generalize S.getD 3 0 = q3 at *
  have ha4 := arrAt4
  have he4 := eql4_same q0 q1 q2 q3
  have hc1 : ¬ (c = Q) := by omega
  have hwQ2 : IntKind.i64.wrap (Q : Int) = (Q : Int) := by rw [IntKind.wrap_i64]; omega
  have hc2 : (4 : Int) ≤ ((c - Q : Nat) : Int) := by omega
  have hLQ : L - Q = 4 := by omega
  have hQL : (Q : Int) ≤ (L : Int) := by omega
  go_wp2_with fail
  go_quiet ((go_at_call 38; exact Calls.quiet_of_same (need_same _ _ _ _)))
  have hb5 : Bs (w4.drewN nq) (some ⟨b, o, none⟩) (preL kd body) := by
    have h := (Bs.drewN hb4.out nq).take Q
    rw [List.take_append_of_le_length (by omega), List.take_of_length_le (by omega)] at h
    exact h
  have hFr5 : FrD w (w4.drewN nq) := ⟨hZ4.out, hE4.out, below_drewN hB44.out nq⟩
  have hs5 : w.heap.size + 2 ≤ (w4.drewN nq).heap.size := by simp only [World.heap_drewN]; omega
  clear hb4 hZ4 hE4 hB44 hs4 x0 x1 x2 x3 y0 y1 y2 y3 he4 ha4
  generalize w4.drewN nq = w5 at hb5 hFr5 hs5 ⊢
  replace hb5 := Lib.hid hb5
  replace hFr5 := Lib.hid hFr5
  go_upto_region 8 with fail
  have hRd := RdM.made w5 b o Q c (preL kd body) hb5.out hpl (by omega) (by omega) (by omega) (by omega)
  have hFr := hFr5.out.on (boxed w5 (.cells ((Tryd.zeroCells107.setIfInBounds 0 (.slice (some ⟨b, o, none⟩) Q c)).setIfInBounds 1 (.int .i64 10)) 107))
  have hR2 : w.heap.size + 2 ≤ w5.heap.size := hs5
  clear hb5 hFr5 hs5 hcQ hcL hwQ hq0 hL4 hL4i hwQ2 hc2 hLQ hQL hc1
  generalize hRe : w5.heap.size = R at hRd hR2 ⊢
  generalize w5.alloc (.cells ((Tryd.zeroCells107.setIfInBounds 0 (.slice (some ⟨b, o, none⟩) Q c)).setIfInBounds 1 (.int .i64 10)) 107) = w6 at hRd hFr ⊢
  have hRne : w.heap.size + 2 ≤ R := hR2
  have hM := Lib.hid zC_msg
  obtain ⟨CS0, hCS⟩ : ∃ x, x = Tryd.zeroCells36 := ⟨_, rfl⟩
  rw [← hCS] at hRd hM
  clear hCS
  have l2 := hRd.c2 hM.out.kind 2 rfl
  have lf := hRd.free 2
  replace hRd := Lib.hid hRd
  replace hFr := Lib.hid hFr
  go_upto_region 9 with fail
  clear l2 lf
  have hRd2 := hRd.out.set1 0 (.int .i64 4) 2 rfl
  have hFr2 := hFr.out.keepR (Keep.set (fun k => k = R) R 2 (.int .i64 4) rfl) hRne
  have hM2 := hM.out.set_kind 4
  clear hRd hFr hM
  generalize (w6.setCell ⟨R, 2, none⟩ (.int .i64 4)) = w7 at hRd2 hFr2 ⊢
  obtain ⟨CS7, hCS2⟩ : ∃ x, x = setRange CS0 0 [.int .i64 4] := ⟨_, rfl⟩
  rw [← hCS2] at hRd2 hM2
  clear hCS2 CS0
  have l1 := hRd2.c1
  have hRd := Lib.hid hRd2
  have hFr := Lib.hid hFr2
  have hM := Lib.hid hM2
  clear hRd2 hFr2 hM2
  go_wp2_with fail
  by_cases hltw7 : Q < 10 + 32
  · have hP := Lib.hid (takeF_bad hdr.out (by rw [hpl]; exact hltw7))
    clear hdr
    refine (take_rd_short hRd.out 32 kSession _ hltw7 (by omega)).mono ?_
    rintro e w8 ⟨q, rfl, hq, hF, hK⟩
    have hFr := hFr.out.keepR hK hRne
    have hq2 : w.heap.size + 2 ≤ q := Nat.le_trans (Nat.le_trans hRne (Nat.le_of_lt hRd.out.lt)) hq
    replace hF := Lib.hid hF
    clear hRd hM hK hq
    obtain ⟨hZ3, hE3, hB33⟩ := hFr
    have ce : w8.cell? ⟨w.heap.size + 1, 0, none⟩ = some .nilIface := cell_of hE3 rfl
    have cf : w8.frozen? ⟨w.heap.size + 1, 0, none⟩ = false := free_of hE3
    replace hE3 := Lib.hid hE3
    replace hZ3 := Lib.hid hZ3
    replace hB33 := Lib.hid hB33
    go_wp2_with fail
    have hEf := cell_of (heap_set (o := 0) hE3.out (errOf q)) (off := 0) rfl
    have hKf : Keep (fun k => k = w.heap.size + 1) w8 (w8.setCell ⟨w.heap.size + 1, 0, none⟩ (errOf q)) := Keep.set (fun k => k = w.heap.size + 1) _ _ _ rfl
    have hZf := hKf.heap (show ¬ w.heap.size = w.heap.size + 1 by omega) hZ3.out
    have hFf := hKf.heap (show ¬ q = w.heap.size + 1 by omega) hF.out
    have hBf := below_keep hB33.out hKf (fun i e => by omega) hB33.out.size
    have hif : (Tryd.prog.info? 36).map (·.size) = some Tryd.zeroCells36.size := by kernel_rfl
    have hL := run_loadVar_row (P := Tryd.prog) _ w.heap.size 36 36 _ (0, 0) _ hZf Tryd.underlying36 rfl hif
    have hL2 : (loadVar 38 ⟨w.heap.size + 1, 0, none⟩).run Tryd.prog (w8.setCell ⟨w.heap.size + 1, 0, none⟩ (errOf q)) = .ok (errOf q) (w8.setCell ⟨w.heap.size + 1, 0, none⟩ (errOf q)) := by simp [go_sem, hEf]
    refine leaves_cons (f := 36) (args := #[.pointer (some ⟨w.heap.size + 1, 0, none⟩)]) (by simp) (by simp [go_sem]) ?_
    refine (caught_panicking ⟨w.heap.size + 1, 0, none⟩ q .nilIface [] _ ce cf).mono ?_
    rintro e u' w'' ⟨rfl, rfl, rfl⟩
    exact ⟨_, results_cell2 rfl _ _ ⟨w.heap.size, 0, none⟩ ⟨w.heap.size + 1, 0, none⟩ (.agg Tryd.zeroCells36) (errOf q) rfl rfl hL hL2, DecPost.bad hP.out ⟨q, rfl, hFf, hBf⟩⟩

  replace hdr := Lib.hid (takeF_ok hdr.out (by rw [hpl]; omega))
  refine (take_rd hRd.out 32 _ _ (by omega)).mono ?_
  rintro e w8 ⟨rfl, hRd2, hK⟩
  replace hFr := Lib.hid (hFr.out.keepR hK hRne)
  replace hRd : Hid (RdM w8 R b o Q c 42 (preL kd body) CS7) := Lib.hid hRd2
  have hsl := segL_len (l := preL kd body) (at_ := 10) (n := 32) (by rw [hpl]; omega)
  clear hRd2 hK l1
  have hss := hRd.out.seg 10 32
  obtain ⟨sg, hsgd⟩ : ∃ x, x = segL (preL kd body) 10 32 := ⟨_, rfl⟩
  rw [← hsgd] at hss hsl hdr
  clear hsgd
  rename_i hK
  refine hK _ _ ?_
  clear hK
  refine wpList_value (w' := w8) rfl (.pointer (some ⟨b, o + 10, none⟩)) (by
    show (Instr.arrayAt 26 (.slice (some ⟨b, o + 10, none⟩) 32 (c - 10)) >>= fun v => pure (Next.value v) : Sem Next).run Tryd.prog w8 = _
    simp only [Sem.run_bind, arrAt32, Result.andThen, Sem.run_pure]) ?_
  have hif : (Tryd.prog.info? 26).map (·.size) = some (sg.map B8).length := by rw [List.length_map, hsl]; kernel_rfl
  refine wpList_load_mid rfl _ _ rfl b (o + 10) rfl (sg.map B8) _ hss.range Tryd.underlying26 rfl hif ?_
  have hif2 : (Tryd.prog.info? 26).map (·.size) = some (sg.map B8).toArray.size := by rw [List.size_toArray]; exact hif
  have hone : (sg.map B8).toArray.all (·.oneCell') = true := all_oneCell_toArray one_bytes
  have hsL : (sg.map B8).toArray.toList = sg.map B8 := rfl
  have hssz : (sg.map B8).toArray.size = 32 := by simp [hsl]
  generalize (sg.map B8).toArray = SA at hif2 hone hsL hssz ⊢
  have hth := hRd.out.there 3 SA.size (by rw [hM.out.size, hssz]; omega)
  clear hss hif
  go_upto_region 10 with (refine wpList_store_mid rfl _ _ _ rfl R 3 SA rfl rfl hth hif2 hone ?_)
  try rw [hsL]
  clear hth hif2 hone hsL hssz
  have hRd2 := hRd.out.setN 1 (sg.map B8) 3 rfl
  have hFr2 := hFr.out.keepR (setCells_keep w8 R 3 (sg.map B8)) hRne
  have hM2 := hM.out.set_session sg hsl
  clear hRd hFr hM
  generalize (w8.setCells R 3 (sg.map B8)) = w9 at hRd2 hFr2 ⊢
  obtain ⟨CS9, hCS2⟩ : ∃ x, x = setRange CS7 1 (sg.map B8) := ⟨_, rfl⟩
  rw [← hCS2] at hRd2 hM2
  clear hCS2 CS7
  have l1 := hRd2.c1
  have hRd := Lib.hid hRd2
  have hFr := Lib.hid hFr2
  have hM := Lib.hid hM2
  clear hRd2 hFr2 hM2
  go_wp2_with fail
  by_cases hltw9 : Q < 42 + 1
  · have hP := Lib.hid (takeF_bad hdr.out (by rw [hpl]; exact hltw9))
    clear hdr
    refine (take_rd_short hRd.out 1 kFrom _ hltw9 (by omega)).mono ?_
    rintro e w10 ⟨q, rfl, hq, hF, hK⟩
    have hFr := hFr.out.keepR hK hRne
    have hq2 : w.heap.size + 2 ≤ q := Nat.le_trans (Nat.le_trans hRne (Nat.le_of_lt hRd.out.lt)) hq
    replace hF := Lib.hid hF
    clear hRd hM hK hq
    obtain ⟨hZ3, hE3, hB33⟩ := hFr
    have ce : w10.cell? ⟨w.heap.size + 1, 0, none⟩ = some .nilIface := cell_of hE3 rfl
    have cf : w10.frozen? ⟨w.heap.size + 1, 0, none⟩ = false := free_of hE3
    replace hE3 := Lib.hid hE3
    replace hZ3 := Lib.hid hZ3
    replace hB33 := Lib.hid hB33
    go_wp2_with fail
    have hEf := cell_of (heap_set (o := 0) hE3.out (errOf q)) (off := 0) rfl
    have hKf : Keep (fun k => k = w.heap.size + 1) w10 (w10.setCell ⟨w.heap.size + 1, 0, none⟩ (errOf q)) := Keep.set (fun k => k = w.heap.size + 1) _ _ _ rfl
    have hZf := hKf.heap (show ¬ w.heap.size = w.heap.size + 1 by omega) hZ3.out
    have hFf := hKf.heap (show ¬ q = w.heap.size + 1 by omega) hF.out
    have hBf := below_keep hB33.out hKf (fun i e => by omega) hB33.out.size
    have hif : (Tryd.prog.info? 36).map (·.size) = some Tryd.zeroCells36.size := by kernel_rfl
    have hL := run_loadVar_row (P := Tryd.prog) _ w.heap.size 36 36 _ (0, 0) _ hZf Tryd.underlying36 rfl hif
    have hL2 : (loadVar 38 ⟨w.heap.size + 1, 0, none⟩).run Tryd.prog (w10.setCell ⟨w.heap.size + 1, 0, none⟩ (errOf q)) = .ok (errOf q) (w10.setCell ⟨w.heap.size + 1, 0, none⟩ (errOf q)) := by simp [go_sem, hEf]
    refine leaves_cons (f := 36) (args := #[.pointer (some ⟨w.heap.size + 1, 0, none⟩)]) (by simp) (by simp [go_sem]) ?_
    refine (caught_panicking ⟨w.heap.size + 1, 0, none⟩ q .nilIface [] _ ce cf).mono ?_
    rintro e u' w'' ⟨rfl, rfl, rfl⟩
    exact ⟨_, results_cell2 rfl _ _ ⟨w.heap.size, 0, none⟩ ⟨w.heap.size + 1, 0, none⟩ (.agg Tryd.zeroCells36) (errOf q) rfl rfl hL hL2, DecPost.bad hP.out ⟨q, rfl, hFf, hBf⟩⟩

  replace hdr := Lib.hid (takeF_ok hdr.out (by rw [hpl]; omega))
  refine (take_rd hRd.out 1 _ _ (by omega)).mono ?_
  rintro e w10 ⟨rfl, hRd2, hK⟩
  replace hFr := Lib.hid (hFr.out.keepR hK hRne)
  replace hRd : Hid (RdM w10 R b o Q c 43 (preL kd body) CS9) := Lib.hid hRd2
  have hsl := segL_len (l := preL kd body) (at_ := 42) (n := 1) (by rw [hpl]; omega)
  clear hRd2 hK l1
  have x0 := hRd.out.cell (j := 42) (by omega) (o + 42) rfl
  have e0 : (segL (preL kd body) 42 1).getD 0 0 = (preL kd body).getD 42 0 := segL_getD _ _ _ 0 (by decide)
  rw [e0] at hdr
  generalize (preL kd body).getD 42 0 = y10 at x0 hdr
  clear hsl e0
  have m0 := hRd.out.c2 hM.out.from_ 35 rfl
  have mf := hRd.out.free 35
  have hwf : IntKind.i64.wrap (nb y10) = nb y10 := by have := nb_bd y10; rw [IntKind.wrap_i64]; omega
  have hwf2 : wrap64 (nb y10) = nb y10 := by have := nb_bd y10; exact IntWalk.wrap64_in _ ⟨by omega, by omega⟩
  go_upto_region 11 with fail
  clear x0 m0 mf hwf hwf2
  have hRd2 := hRd.out.set1 33 (.int .i64 (nb y10)) 35 rfl
  have hFr2 := hFr.out.keepR (Keep.set (fun k => k = R) R 35 (.int .i64 (nb y10)) rfl) hRne
  have hM2 := hM.out.set_from_ (nb y10)
  clear hRd hFr hM
  generalize (w10.setCell ⟨R, 35, none⟩ (.int .i64 (nb y10))) = w11 at hRd2 hFr2 ⊢
  obtain ⟨CS11, hCS2⟩ : ∃ x, x = setRange CS9 33 [.int .i64 (nb y10)] := ⟨_, rfl⟩
  rw [← hCS2] at hRd2 hM2
  clear hCS2 CS9
  have l1 := hRd2.c1
  have hRd := Lib.hid hRd2
  have hFr := Lib.hid hFr2
  have hM := Lib.hid hM2
  clear hRd2 hFr2 hM2
  go_wp2_with fail
  by_cases hltw11 : Q < 43 + 1
  · have hP := Lib.hid (takeF_bad hdr.out (by rw [hpl]; exact hltw11))
    clear hdr
    refine (take_rd_short hRd.out 1 kTo _ hltw11 (by omega)).mono ?_
    rintro e w12 ⟨q, rfl, hq, hF, hK⟩
    have hFr := hFr.out.keepR hK hRne
    have hq2 : w.heap.size + 2 ≤ q := Nat.le_trans (Nat.le_trans hRne (Nat.le_of_lt hRd.out.lt)) hq
    replace hF := Lib.hid hF
    clear hRd hM hK hq
    obtain ⟨hZ3, hE3, hB33⟩ := hFr
    have ce : w12.cell? ⟨w.heap.size + 1, 0, none⟩ = some .nilIface := cell_of hE3 rfl
    have cf : w12.frozen? ⟨w.heap.size + 1, 0, none⟩ = false := free_of hE3
    replace hE3 := Lib.hid hE3
    replace hZ3 := Lib.hid hZ3
    replace hB33 := Lib.hid hB33
    go_wp2_with fail
    have hEf := cell_of (heap_set (o := 0) hE3.out (errOf q)) (off := 0) rfl
    have hKf : Keep (fun k => k = w.heap.size + 1) w12 (w12.setCell ⟨w.heap.size + 1, 0, none⟩ (errOf q)) := Keep.set (fun k => k = w.heap.size + 1) _ _ _ rfl
    have hZf := hKf.heap (show ¬ w.heap.size = w.heap.size + 1 by omega) hZ3.out
    have hFf := hKf.heap (show ¬ q = w.heap.size + 1 by omega) hF.out
    have hBf := below_keep hB33.out hKf (fun i e => by omega) hB33.out.size
    have hif : (Tryd.prog.info? 36).map (·.size) = some Tryd.zeroCells36.size := by kernel_rfl
    have hL := run_loadVar_row (P := Tryd.prog) _ w.heap.size 36 36 _ (0, 0) _ hZf Tryd.underlying36 rfl hif
    have hL2 : (loadVar 38 ⟨w.heap.size + 1, 0, none⟩).run Tryd.prog (w12.setCell ⟨w.heap.size + 1, 0, none⟩ (errOf q)) = .ok (errOf q) (w12.setCell ⟨w.heap.size + 1, 0, none⟩ (errOf q)) := by simp [go_sem, hEf]
    refine leaves_cons (f := 36) (args := #[.pointer (some ⟨w.heap.size + 1, 0, none⟩)]) (by simp) (by simp [go_sem]) ?_
    refine (caught_panicking ⟨w.heap.size + 1, 0, none⟩ q .nilIface [] _ ce cf).mono ?_
    rintro e u' w'' ⟨rfl, rfl, rfl⟩
    exact ⟨_, results_cell2 rfl _ _ ⟨w.heap.size, 0, none⟩ ⟨w.heap.size + 1, 0, none⟩ (.agg Tryd.zeroCells36) (errOf q) rfl rfl hL hL2, DecPost.bad hP.out ⟨q, rfl, hFf, hBf⟩⟩

  replace hdr := Lib.hid (takeF_ok hdr.out (by rw [hpl]; omega))
  refine (take_rd hRd.out 1 _ _ (by omega)).mono ?_
  rintro e w12 ⟨rfl, hRd2, hK⟩
  replace hFr := Lib.hid (hFr.out.keepR hK hRne)
  replace hRd : Hid (RdM w12 R b o Q c 44 (preL kd body) CS11) := Lib.hid hRd2
  have hsl := segL_len (l := preL kd body) (at_ := 43) (n := 1) (by rw [hpl]; omega)
  clear hRd2 hK l1
  have x0 := hRd.out.cell (j := 43) (by omega) (o + 43) rfl
  have e0 : (segL (preL kd body) 43 1).getD 0 0 = (preL kd body).getD 43 0 := segL_getD _ _ _ 0 (by decide)
  rw [e0] at hdr
  generalize (preL kd body).getD 43 0 = y12 at x0 hdr
  clear hsl e0
  have m0 := hRd.out.c2 hM.out.to_ 36 rfl
  have mf := hRd.out.free 36
  have hwf : IntKind.i64.wrap (nb y12) = nb y12 := by have := nb_bd y12; rw [IntKind.wrap_i64]; omega
  have hwf2 : wrap64 (nb y12) = nb y12 := by have := nb_bd y12; exact IntWalk.wrap64_in _ ⟨by omega, by omega⟩
  go_upto_region 12 with fail
  clear x0 m0 mf hwf hwf2
  have hRd2 := hRd.out.set1 34 (.int .i64 (nb y12)) 36 rfl
  have hFr2 := hFr.out.keepR (Keep.set (fun k => k = R) R 36 (.int .i64 (nb y12)) rfl) hRne
  have hM2 := hM.out.set_to_ (nb y12)
  clear hRd hFr hM
  generalize (w12.setCell ⟨R, 36, none⟩ (.int .i64 (nb y12))) = w13 at hRd2 hFr2 ⊢
  obtain ⟨CS13, hCS2⟩ : ∃ x, x = setRange CS11 34 [.int .i64 (nb y12)] := ⟨_, rfl⟩
  rw [← hCS2] at hRd2 hM2
  clear hCS2 CS11
  have l1 := hRd2.c1
  have hRd := Lib.hid hRd2
  have hFr := Lib.hid hFr2
  have hM := Lib.hid hM2
  clear hRd2 hFr2 hM2
  replace hdr := hdr.out
  rw [hkd] at hdr
  unfold restF at hdr
  rw [if_neg (by decide), if_neg (by decide), if_pos rfl] at hdr
  replace hdr := Lib.hid hdr
  go_wp2_with fail
  by_cases hlt : Q < 44 + 65
  · have hP := Lib.hid (pairF_short hdr.out (by rw [hpl]; exact hlt))
    clear hdr
    refine (pair_short hRd.out hRd.out.lt kPair hlt).mono ?_
    rintro e w14 ⟨q, rfl, hq, hF, hK⟩
    have hFr := hFr.out.keepR hK hRne
    have hq2 : w.heap.size + 2 ≤ q := Nat.le_trans (Nat.le_trans hRne (Nat.le_of_lt hRd.out.lt)) hq
    replace hF := Lib.hid hF
    clear hRd hM hK hq
    obtain ⟨hZ3, hE3, hB33⟩ := hFr
    have ce : w14.cell? ⟨w.heap.size + 1, 0, none⟩ = some .nilIface := cell_of hE3 rfl
    have cf : w14.frozen? ⟨w.heap.size + 1, 0, none⟩ = false := free_of hE3
    replace hE3 := Lib.hid hE3
    replace hZ3 := Lib.hid hZ3
    replace hB33 := Lib.hid hB33
    go_wp2_with fail
    have hEf := cell_of (heap_set (o := 0) hE3.out (errOf q)) (off := 0) rfl
    have hKf : Keep (fun k => k = w.heap.size + 1) w14 (w14.setCell ⟨w.heap.size + 1, 0, none⟩ (errOf q)) := Keep.set (fun k => k = w.heap.size + 1) _ _ _ rfl
    have hZf := hKf.heap (show ¬ w.heap.size = w.heap.size + 1 by omega) hZ3.out
    have hFf := hKf.heap (show ¬ q = w.heap.size + 1 by omega) hF.out
    have hBf := below_keep hB33.out hKf (fun i e => by omega) hB33.out.size
    have hif : (Tryd.prog.info? 36).map (·.size) = some Tryd.zeroCells36.size := by kernel_rfl
    have hL := run_loadVar_row (P := Tryd.prog) _ w.heap.size 36 36 _ (0, 0) _ hZf Tryd.underlying36 rfl hif
    have hL2 : (loadVar 38 ⟨w.heap.size + 1, 0, none⟩).run Tryd.prog (w14.setCell ⟨w.heap.size + 1, 0, none⟩ (errOf q)) = .ok (errOf q) (w14.setCell ⟨w.heap.size + 1, 0, none⟩ (errOf q)) := by simp [go_sem, hEf]
    refine leaves_cons (f := 36) (args := #[.pointer (some ⟨w.heap.size + 1, 0, none⟩)]) (by simp) (by simp [go_sem]) ?_
    refine (caught_panicking ⟨w.heap.size + 1, 0, none⟩ q .nilIface [] _ ce cf).mono ?_
    rintro e u' w'' ⟨rfl, rfl, rfl⟩
    exact ⟨_, results_cell2 rfl _ _ ⟨w.heap.size, 0, none⟩ ⟨w.heap.size + 1, 0, none⟩ (.agg Tryd.zeroCells36) (errOf q) rfl rfl hL hL2, DecPost.bad hP.out ⟨q, rfl, hFf, hBf⟩⟩
  by_cases hz : (preL kd body).getD 44 0 = 0
  · have hP := Lib.hid (pairF_zero hdr.out (by rw [hpl]; omega) hz)
    clear hdr
    refine (pair_zero hRd.out hRd.out.lt kPair (by omega) hz).mono ?_
    rintro e w14 ⟨q, rfl, hq, hF, hK⟩
    have hFr := hFr.out.keepR hK hRne
    have hq2 : w.heap.size + 2 ≤ q := Nat.le_trans (Nat.le_trans hRne (Nat.le_of_lt hRd.out.lt)) hq
    replace hF := Lib.hid hF
    clear hRd hM hK hq
    obtain ⟨hZ3, hE3, hB33⟩ := hFr
    have ce : w14.cell? ⟨w.heap.size + 1, 0, none⟩ = some .nilIface := cell_of hE3 rfl
    have cf : w14.frozen? ⟨w.heap.size + 1, 0, none⟩ = false := free_of hE3
    replace hE3 := Lib.hid hE3
    replace hZ3 := Lib.hid hZ3
    replace hB33 := Lib.hid hB33
    go_wp2_with fail
    have hEf := cell_of (heap_set (o := 0) hE3.out (errOf q)) (off := 0) rfl
    have hKf : Keep (fun k => k = w.heap.size + 1) w14 (w14.setCell ⟨w.heap.size + 1, 0, none⟩ (errOf q)) := Keep.set (fun k => k = w.heap.size + 1) _ _ _ rfl
    have hZf := hKf.heap (show ¬ w.heap.size = w.heap.size + 1 by omega) hZ3.out
    have hFf := hKf.heap (show ¬ q = w.heap.size + 1 by omega) hF.out
    have hBf := below_keep hB33.out hKf (fun i e => by omega) hB33.out.size
    have hif : (Tryd.prog.info? 36).map (·.size) = some Tryd.zeroCells36.size := by kernel_rfl
    have hL := run_loadVar_row (P := Tryd.prog) _ w.heap.size 36 36 _ (0, 0) _ hZf Tryd.underlying36 rfl hif
    have hL2 : (loadVar 38 ⟨w.heap.size + 1, 0, none⟩).run Tryd.prog (w14.setCell ⟨w.heap.size + 1, 0, none⟩ (errOf q)) = .ok (errOf q) (w14.setCell ⟨w.heap.size + 1, 0, none⟩ (errOf q)) := by simp [go_sem, hEf]
    refine leaves_cons (f := 36) (args := #[.pointer (some ⟨w.heap.size + 1, 0, none⟩)]) (by simp) (by simp [go_sem]) ?_
    refine (caught_panicking ⟨w.heap.size + 1, 0, none⟩ q .nilIface [] _ ce cf).mono ?_
    rintro e u' w'' ⟨rfl, rfl, rfl⟩
    exact ⟨_, results_cell2 rfl _ _ ⟨w.heap.size, 0, none⟩ ⟨w.heap.size + 1, 0, none⟩ (.agg Tryd.zeroCells36) (errOf q) rfl rfl hL hL2, DecPost.bad hP.out ⟨q, rfl, hFf, hBf⟩⟩
  replace hdr := Lib.hid (pairF_ok hdr.out (by rw [hpl]; omega) hz)
  refine (pair_rd hRd.out hRd.out.lt _ (by omega) hz).mono ?_
  rintro e w14 ⟨rfl, hRd2, hK⟩
  replace hFr := Lib.hid (hFr.out.keepR hK hRne)
  replace hRd : Hid (RdM w14 R b o Q c 109 (preL kd body) CS13) := Lib.hid hRd2
  have hPO := pairOf_ok (l := segL (preL kd body) 44 65) (segL_len (by rw [hpl]; omega))
  generalize pairOf (segL (preL kd body) 44 65) = pr at hPO hdr ⊢
  have hPs := pairA_size hPO
  have hone := pairA_one pr
  have hif2 : (Tryd.prog.info? 29).map (·.size) = some (pairA pr).size := by rw [hPs]; kernel_rfl
  clear hRd2 hK hz
  try clear l1
  have hth := hRd.out.there 37 (pairA pr).size (by rw [hM.out.size, hPs]; omega)
  go_upto_region 19 with (refine wpList_store_mid rfl _ _ _ rfl R 37 (pairA pr) rfl rfl hth hif2 hone ?_)
  clear hth hif2 hone hPs
  have hRd2 := hRd.out.setN 35 (pairA pr).toList 37 rfl
  have hFr2 := hFr.out.keepR (setCells_keep w14 R 37 (pairA pr).toList) hRne
  have hM2 := hM.out.set_pair pr hPO
  clear hRd hFr hM
  generalize (w14.setCells R 37 (pairA pr).toList) = w15 at hRd2 hFr2 ⊢
  obtain ⟨CS15, hCS2⟩ : ∃ x, x = setRange CS13 35 (pairA pr).toList := ⟨_, rfl⟩
  rw [← hCS2] at hRd2 hM2
  clear hCS2 CS13
  have l1 := hRd2.c1
  have hRd := Lib.hid hRd2
  have hFr := Lib.hid hFr2
  have hM := Lib.hid hM2
  clear hRd2 hFr2 hM2
  go_wp2_with fail
  by_cases hltw15 : Q < 109 + 32
  · have hP := Lib.hid (takeF_bad hdr.out (by rw [hpl]; exact hltw15))
    clear hdr
    refine (take_rd_short hRd.out 32 kBind _ hltw15 (by omega)).mono ?_
    rintro e w16 ⟨q, rfl, hq, hF, hK⟩
    have hFr := hFr.out.keepR hK hRne
    have hq2 : w.heap.size + 2 ≤ q := Nat.le_trans (Nat.le_trans hRne (Nat.le_of_lt hRd.out.lt)) hq
    replace hF := Lib.hid hF
    clear hRd hM hK hq
    obtain ⟨hZ3, hE3, hB33⟩ := hFr
    have ce : w16.cell? ⟨w.heap.size + 1, 0, none⟩ = some .nilIface := cell_of hE3 rfl
    have cf : w16.frozen? ⟨w.heap.size + 1, 0, none⟩ = false := free_of hE3
    replace hE3 := Lib.hid hE3
    replace hZ3 := Lib.hid hZ3
    replace hB33 := Lib.hid hB33
    go_wp2_with fail
    have hEf := cell_of (heap_set (o := 0) hE3.out (errOf q)) (off := 0) rfl
    have hKf : Keep (fun k => k = w.heap.size + 1) w16 (w16.setCell ⟨w.heap.size + 1, 0, none⟩ (errOf q)) := Keep.set (fun k => k = w.heap.size + 1) _ _ _ rfl
    have hZf := hKf.heap (show ¬ w.heap.size = w.heap.size + 1 by omega) hZ3.out
    have hFf := hKf.heap (show ¬ q = w.heap.size + 1 by omega) hF.out
    have hBf := below_keep hB33.out hKf (fun i e => by omega) hB33.out.size
    have hif : (Tryd.prog.info? 36).map (·.size) = some Tryd.zeroCells36.size := by kernel_rfl
    have hL := run_loadVar_row (P := Tryd.prog) _ w.heap.size 36 36 _ (0, 0) _ hZf Tryd.underlying36 rfl hif
    have hL2 : (loadVar 38 ⟨w.heap.size + 1, 0, none⟩).run Tryd.prog (w16.setCell ⟨w.heap.size + 1, 0, none⟩ (errOf q)) = .ok (errOf q) (w16.setCell ⟨w.heap.size + 1, 0, none⟩ (errOf q)) := by simp [go_sem, hEf]
    refine leaves_cons (f := 36) (args := #[.pointer (some ⟨w.heap.size + 1, 0, none⟩)]) (by simp) (by simp [go_sem]) ?_
    refine (caught_panicking ⟨w.heap.size + 1, 0, none⟩ q .nilIface [] _ ce cf).mono ?_
    rintro e u' w'' ⟨rfl, rfl, rfl⟩
    exact ⟨_, results_cell2 rfl _ _ ⟨w.heap.size, 0, none⟩ ⟨w.heap.size + 1, 0, none⟩ (.agg Tryd.zeroCells36) (errOf q) rfl rfl hL hL2, DecPost.bad hP.out ⟨q, rfl, hFf, hBf⟩⟩

  replace hdr := Lib.hid (takeF_ok hdr.out (by rw [hpl]; omega))
  refine (take_rd hRd.out 32 _ _ (by omega)).mono ?_
  rintro e w16 ⟨rfl, hRd2, hK⟩
  replace hFr := Lib.hid (hFr.out.keepR hK hRne)
  replace hRd : Hid (RdM w16 R b o Q c 141 (preL kd body) CS15) := Lib.hid hRd2
  have hsl := segL_len (l := preL kd body) (at_ := 109) (n := 32) (by rw [hpl]; omega)
  clear hRd2 hK l1
  have hss := hRd.out.seg 109 32
  obtain ⟨sg, hsgd⟩ : ∃ x, x = segL (preL kd body) 109 32 := ⟨_, rfl⟩
  rw [← hsgd] at hss hsl hdr
  clear hsgd
  rename_i hK
  refine hK _ _ ?_
  clear hK
  refine wpList_value (w' := w16) rfl (.pointer (some ⟨b, o + 109, none⟩)) (by
    show (Instr.arrayAt 26 (.slice (some ⟨b, o + 109, none⟩) 32 (c - 109)) >>= fun v => pure (Next.value v) : Sem Next).run Tryd.prog w16 = _
    simp only [Sem.run_bind, arrAt32, Result.andThen, Sem.run_pure]) ?_
  have hif : (Tryd.prog.info? 26).map (·.size) = some (sg.map B8).length := by rw [List.length_map, hsl]; kernel_rfl
  refine wpList_load_mid rfl _ _ rfl b (o + 109) rfl (sg.map B8) _ hss.range Tryd.underlying26 rfl hif ?_
  have hif2 : (Tryd.prog.info? 26).map (·.size) = some (sg.map B8).toArray.size := by rw [List.size_toArray]; exact hif
  have hone : (sg.map B8).toArray.all (·.oneCell') = true := all_oneCell_toArray one_bytes
  have hsL : (sg.map B8).toArray.toList = sg.map B8 := rfl
  have hssz : (sg.map B8).toArray.size = 32 := by simp [hsl]
  generalize (sg.map B8).toArray = SA at hif2 hone hsL hssz ⊢
  have hth := hRd.out.there 104 SA.size (by rw [hM.out.size, hssz]; omega)
  clear hss hif
  go_upto_region 20 with (refine wpList_store_mid rfl _ _ _ rfl R 104 SA rfl rfl hth hif2 hone ?_)
  try rw [hsL]
  clear hth hif2 hone hsL hssz
  have hRd2 := hRd.out.setN 102 (sg.map B8) 104 rfl
  have hFr2 := hFr.out.keepR (setCells_keep w16 R 104 (sg.map B8)) hRne
  have hM2 := hM.out.set_bind_ sg hsl
  clear hRd hFr hM
  generalize (w16.setCells R 104 (sg.map B8)) = w17 at hRd2 hFr2 ⊢
  obtain ⟨CS17, hCS2⟩ : ∃ x, x = setRange CS15 102 (sg.map B8) := ⟨_, rfl⟩
  rw [← hCS2] at hRd2 hM2
  clear hCS2 CS15
  have l1 := hRd2.c1
  have hRd := Lib.hid hRd2
  have hFr := Lib.hid hFr2
  have hM := Lib.hid hM2
  clear hRd2 hFr2 hM2
  go_wp2_with fail
  by_cases hltw17 : Q < 141 + 32
  · have hP := Lib.hid (takeF_bad hdr.out (by rw [hpl]; exact hltw17))
    clear hdr
    refine (take_rd_short hRd.out 32 kShare _ hltw17 (by omega)).mono ?_
    rintro e w18 ⟨q, rfl, hq, hF, hK⟩
    have hFr := hFr.out.keepR hK hRne
    have hq2 : w.heap.size + 2 ≤ q := Nat.le_trans (Nat.le_trans hRne (Nat.le_of_lt hRd.out.lt)) hq
    replace hF := Lib.hid hF
    clear hRd hM hK hq
    obtain ⟨hZ3, hE3, hB33⟩ := hFr
    have ce : w18.cell? ⟨w.heap.size + 1, 0, none⟩ = some .nilIface := cell_of hE3 rfl
    have cf : w18.frozen? ⟨w.heap.size + 1, 0, none⟩ = false := free_of hE3
    replace hE3 := Lib.hid hE3
    replace hZ3 := Lib.hid hZ3
    replace hB33 := Lib.hid hB33
    go_wp2_with fail
    have hEf := cell_of (heap_set (o := 0) hE3.out (errOf q)) (off := 0) rfl
    have hKf : Keep (fun k => k = w.heap.size + 1) w18 (w18.setCell ⟨w.heap.size + 1, 0, none⟩ (errOf q)) := Keep.set (fun k => k = w.heap.size + 1) _ _ _ rfl
    have hZf := hKf.heap (show ¬ w.heap.size = w.heap.size + 1 by omega) hZ3.out
    have hFf := hKf.heap (show ¬ q = w.heap.size + 1 by omega) hF.out
    have hBf := below_keep hB33.out hKf (fun i e => by omega) hB33.out.size
    have hif : (Tryd.prog.info? 36).map (·.size) = some Tryd.zeroCells36.size := by kernel_rfl
    have hL := run_loadVar_row (P := Tryd.prog) _ w.heap.size 36 36 _ (0, 0) _ hZf Tryd.underlying36 rfl hif
    have hL2 : (loadVar 38 ⟨w.heap.size + 1, 0, none⟩).run Tryd.prog (w18.setCell ⟨w.heap.size + 1, 0, none⟩ (errOf q)) = .ok (errOf q) (w18.setCell ⟨w.heap.size + 1, 0, none⟩ (errOf q)) := by simp [go_sem, hEf]
    refine leaves_cons (f := 36) (args := #[.pointer (some ⟨w.heap.size + 1, 0, none⟩)]) (by simp) (by simp [go_sem]) ?_
    refine (caught_panicking ⟨w.heap.size + 1, 0, none⟩ q .nilIface [] _ ce cf).mono ?_
    rintro e u' w'' ⟨rfl, rfl, rfl⟩
    exact ⟨_, results_cell2 rfl _ _ ⟨w.heap.size, 0, none⟩ ⟨w.heap.size + 1, 0, none⟩ (.agg Tryd.zeroCells36) (errOf q) rfl rfl hL hL2, DecPost.bad hP.out ⟨q, rfl, hFf, hBf⟩⟩

  replace hdr := Lib.hid (takeF_ok hdr.out (by rw [hpl]; omega))
  refine (take_rd hRd.out 32 _ _ (by omega)).mono ?_
  rintro e w18 ⟨rfl, hRd2, hK⟩
  replace hFr := Lib.hid (hFr.out.keepR hK hRne)
  replace hRd : Hid (RdM w18 R b o Q c 173 (preL kd body) CS17) := Lib.hid hRd2
  have hsl := segL_len (l := preL kd body) (at_ := 141) (n := 32) (by rw [hpl]; omega)
  clear hRd2 hK l1
  have hss := hRd.out.seg 141 32
  obtain ⟨sg, hsgd⟩ : ∃ x, x = segL (preL kd body) 141 32 := ⟨_, rfl⟩
  rw [← hsgd] at hss hsl hdr
  clear hsgd
  rename_i hK
  refine hK _ _ ?_
  clear hK
  refine wpList_value (w' := w18) rfl (.pointer (some ⟨b, o + 141, none⟩)) (by
    show (Instr.arrayAt 31 (.slice (some ⟨b, o + 141, none⟩) 32 (c - 141)) >>= fun v => pure (Next.value v) : Sem Next).run Tryd.prog w18 = _
    simp only [Sem.run_bind, arrAtS, Result.andThen, Sem.run_pure]) ?_
  have hif : (Tryd.prog.info? 31).map (·.size) = some (sg.map B8).length := by rw [List.length_map, hsl]; kernel_rfl
  refine wpList_load_mid rfl _ _ rfl b (o + 141) rfl (sg.map B8) _ hss.range Tryd.underlying31 rfl hif ?_
  have hif2 : (Tryd.prog.info? 31).map (·.size) = some (sg.map B8).toArray.size := by rw [List.size_toArray]; exact hif
  have hone : (sg.map B8).toArray.all (·.oneCell') = true := all_oneCell_toArray one_bytes
  have hsL : (sg.map B8).toArray.toList = sg.map B8 := rfl
  have hssz : (sg.map B8).toArray.size = 32 := by simp [hsl]
  generalize (sg.map B8).toArray = SA at hif2 hone hsL hssz ⊢
  have hth := hRd.out.there 136 SA.size (by rw [hM.out.size, hssz]; omega)
  clear hss hif
  go_upto_region 21 with (refine wpList_store_mid rfl _ _ _ rfl R 136 SA rfl rfl hth hif2 hone ?_)
  try rw [hsL]
  clear hth hif2 hone hsL hssz
  have hRd2 := hRd.out.setN 134 (sg.map B8) 136 rfl
  have hFr2 := hFr.out.keepR (setCells_keep w18 R 136 (sg.map B8)) hRne
  have hM2 := hM.out.set_share sg hsl
  clear hRd hFr hM
  generalize (w18.setCells R 136 (sg.map B8)) = w19 at hRd2 hFr2 ⊢
  obtain ⟨CS19, hCS2⟩ : ∃ x, x = setRange CS17 134 (sg.map B8) := ⟨_, rfl⟩
  rw [← hCS2] at hRd2 hM2
  clear hCS2 CS17
  have l1 := hRd2.c1
  have hRd := Lib.hid hRd2
  have hFr := Lib.hid hFr2
  have hM := Lib.hid hM2
  clear hRd2 hFr2 hM2
  have l0 := hRd.out.c0
  by_cases hT : ¬ (173 = Q)
  · have hP := Lib.hid (tailF_bad hdr.out (by rw [hpl]; exact hT))
    clear hdr
    have hq3 : w.heap.size + 2 ≤ w19.drew.heap.size := Nat.le_trans hRne (Nat.le_of_lt hRd.out.lt)
    have hFr2 : FrD w w19.drew := hFr.out.on (Below.refl _ _).drew
    clear hRd hM hFr
    go_wp2_with fail
    go_still_tail 14, (by kernel_rfl)
    change wpList _ _ _ _ _ w19.drew
    generalize w19.drew = w20 at hFr2 hq3 ⊢
    clear l0 l1
    have hFr := Lib.hid hFr2
    clear hFr2
    go_wp2_with fail
    refine (need_no kTail 173 104 _ _ (decide_eq_false (by omega))).mono ?_
    rintro e w21 ⟨q, rfl, hq, hF, hBn⟩
    replace hFr := hFr.out.on hBn
    have hq2 : w.heap.size + 2 ≤ q := Nat.le_trans hq3 hq
    replace hF := Lib.hid hF
    clear hBn hq hq3
    obtain ⟨hZ3, hE3, hB33⟩ := hFr
    have ce : w21.cell? ⟨w.heap.size + 1, 0, none⟩ = some .nilIface := cell_of hE3 rfl
    have cf : w21.frozen? ⟨w.heap.size + 1, 0, none⟩ = false := free_of hE3
    replace hE3 := Lib.hid hE3
    replace hZ3 := Lib.hid hZ3
    replace hB33 := Lib.hid hB33
    go_wp2_with fail
    have hEf := cell_of (heap_set (o := 0) hE3.out (errOf q)) (off := 0) rfl
    have hKf : Keep (fun k => k = w.heap.size + 1) w21 (w21.setCell ⟨w.heap.size + 1, 0, none⟩ (errOf q)) := Keep.set (fun k => k = w.heap.size + 1) _ _ _ rfl
    have hZf := hKf.heap (show ¬ w.heap.size = w.heap.size + 1 by omega) hZ3.out
    have hFf := hKf.heap (show ¬ q = w.heap.size + 1 by omega) hF.out
    have hBf := below_keep hB33.out hKf (fun i e => by omega) hB33.out.size
    have hif : (Tryd.prog.info? 36).map (·.size) = some Tryd.zeroCells36.size := by kernel_rfl
    have hL := run_loadVar_row (P := Tryd.prog) _ w.heap.size 36 36 _ (0, 0) _ hZf Tryd.underlying36 rfl hif
    have hL2 : (loadVar 38 ⟨w.heap.size + 1, 0, none⟩).run Tryd.prog (w21.setCell ⟨w.heap.size + 1, 0, none⟩ (errOf q)) = .ok (errOf q) (w21.setCell ⟨w.heap.size + 1, 0, none⟩ (errOf q)) := by simp [go_sem, hEf]
    refine leaves_cons (f := 36) (args := #[.pointer (some ⟨w.heap.size + 1, 0, none⟩)]) (by simp) (by simp [go_sem]) ?_
    refine (caught_panicking ⟨w.heap.size + 1, 0, none⟩ q .nilIface [] _ ce cf).mono ?_
    rintro e u' w'' ⟨rfl, rfl, rfl⟩
    exact ⟨_, results_cell2 rfl _ _ ⟨w.heap.size, 0, none⟩ ⟨w.heap.size + 1, 0, none⟩ (.agg Tryd.zeroCells36) (errOf q) rfl rfl hL hL2, DecPost.bad hP.out ⟨q, rfl, hFf, hBf⟩⟩

  rw [Classical.not_not] at hT
  have hP := Lib.hid (tailF_ok hdr.out (by rw [hpl]; exact hT))
  clear hdr
  subst hT
  go_wp2_with fail
  go_quiet ((go_at_call 38; exact Calls.quiet_of_same (need_same _ _ _ _)))
  replace hRd := Lib.hid (hRd.out.drewN nq)
  replace hFr := hFr.out.on (below_drewN (Below.refl _ _) nq)
  clear l0 l1
  generalize w19.drewN nq = w20 at hRd hFr ⊢
  obtain ⟨hZq, hEq, hBq⟩ := hFr
  go_upto_region 28 with fail
  have hrng : ∀ j v, CS19[j]? = some v → w20.cell? ⟨R, 2 + j, none⟩ = some v := fun j v h => hRd.out.c2 h _ rfl
  have hif : (Tryd.prog.info? 36).map (·.size) = some CS19.size := by rw [hM.out.size]; kernel_rfl
  have hz36 : Tryd.zeroCells36.size = CS19.size := by rw [hM.out.size]; exact zC_size
  have hone : CS19.all (·.oneCell') = true := hM.out.one rfl rfl
  have hsW := setRow_keep w20 w.heap.size CS19
  have hE18 := hsW.heap (show ¬ w.heap.size + 1 = w.heap.size by omega) hEq
  have hD18 := setRow_heap w20 w.heap.size _ CS19 _ _ hZq
  have hB18 := below_keep hBq hsW (fun i e => by omega) hBq.size
  have ge1 : (w20.setRow w.heap.size CS19).cell? ⟨w.heap.size + 1, 0, none⟩ = some .nilIface := cell_of hE18 rfl
  have gf1 : (w20.setRow w.heap.size CS19).frozen? ⟨w.heap.size + 1, 0, none⟩ = false := free_of hE18
  replace hrng := Lib.hid hrng
  replace hD18 := Lib.hid hD18
  replace hB18 := Lib.hid hB18
  replace hE18 := Lib.hid hE18
  replace hZq := Lib.hid hZq
  clear hEq hBq hsW hRd
  go_wp2_with (first | (refine wpList_loadM _ rfl _ _ rfl R 2 rfl CS19 hrng.out _ Tryd.underlying36 rfl hif ?_) | (refine wpList_storeW _ rfl _ _ _ rfl w.heap.size CS19 rfl rfl _ _ hZq.out hif hz36 hone ?_))
  have hKz : Keep (fun k => k = w.heap.size + 1) (w20.setRow w.heap.size CS19) ((w20.setRow w.heap.size CS19).setCell ⟨w.heap.size + 1, 0, none⟩ .nilIface) := Keep.set _ (w.heap.size + 1) 0 .nilIface rfl
  have hDz := hKz.heap (show ¬ w.heap.size = w.heap.size + 1 by omega) hD18.out
  have hEz : ((w20.setRow w.heap.size CS19).setCell ⟨w.heap.size + 1, 0, none⟩ .nilIface).cell? ⟨w.heap.size + 1, 0, none⟩ = some .nilIface := cell_of (heap_set hE18.out _) rfl
  have hBz := hB18.out.setCell (p := ⟨w.heap.size + 1, 0, none⟩) (Nat.le_succ _) .nilIface
  generalize (w20.setRow w.heap.size CS19).setCell ⟨w.heap.size + 1, 0, none⟩ .nilIface = wf at *
  have hL := run_loadVar_row (P := Tryd.prog) wf w.heap.size 36 36 CS19 (0, 0) _ hDz Tryd.underlying36 rfl hif
  have hL2 : (loadVar 38 ⟨w.heap.size + 1, 0, none⟩).run Tryd.prog wf = .ok .nilIface wf := by simp [go_sem, hEz]
  refine leaves_cons (f := 36) (args := #[.pointer (some ⟨w.heap.size + 1, 0, none⟩)]) (by simp) (by simp [go_sem]) ?_
  refine (caught_idle ⟨w.heap.size + 1, 0, none⟩ _).mono ?_
  rintro e u' w'' ⟨rfl, rfl, rfl⟩
  clear hDz
  exact ⟨_, results_cell2 rfl _ _ ⟨w.heap.size, 0, none⟩ ⟨w.heap.size + 1, 0, none⟩ (.agg CS19) .nilIface rfl rfl hL hL2, DecPost.ok hP.out ⟨CS19, none, 0, none, 0, rfl, hM.out, OwnP.nil _ _, OwnB.nil _ _, PairsOk.nil, hBz⟩⟩

end Go.Proofs.YtmnmmabhmedioaaDoor
