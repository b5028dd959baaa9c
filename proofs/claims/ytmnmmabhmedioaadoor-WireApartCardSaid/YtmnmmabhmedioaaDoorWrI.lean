/- Wire: a right frame of a refusal is decoded. -/
import Derived.Test.YtmnmmabhmedioaaDoorWrG
import Derived.Test.YtmnmmabhmedioaaDoorWrJ
import Derived.Stop.BytesEq
namespace Go.Proofs.YtmnmmabhmedioaaDoor
open Go.RowKit
set_option linter.unusedVariables false
set_option linter.unusedSimpArgs false
set_option maxRecDepth 100000

theorem frame_head (kd : UInt8) (body : List UInt8) : frameL kd body = headL kd (four body.length) (body ++ (sha (preL kd body)).take 4) := by simp [frameL, preL, headL]
theorem arrAt4 (b o c : Nat) (w : World) : (Instr.arrayAt 104 (.slice (some ⟨b, o, none⟩) 4 c)).run Tryd.prog w = .ok (.pointer (some ⟨b, o, none⟩)) w := by
  simp [Instr.arrayAt, run_underlying Tryd.underlying104]
theorem arrAt32 (b o c : Nat) (w : World) : (Instr.arrayAt 26 (.slice (some ⟨b, o, none⟩) 32 c)).run Tryd.prog w = .ok (.pointer (some ⟨b, o, none⟩)) w := by
  simp [Instr.arrayAt, run_underlying Tryd.underlying26]
theorem size5 (w : World) : (sizeOf 5).run Tryd.prog w = .ok 1 w := by
  obtain ⟨i0, hi0, hz0, hz1, hz2⟩ := info_parts inf5
  simp [sizeOf, typeInfo, hi0, hz1]
theorem eql4 (q0 q1 q2 q3 r0 r1 r2 r3 : UInt8) (w : World) : (binOp .eql 104 (.agg #[B8 q0, B8 q1, B8 q2, B8 q3]) (.agg #[B8 r0, B8 r1, B8 r2, B8 r3])).run Tryd.prog w = .ok (.bool ([q0, q1, q2, q3] == [r0, r1, r2, r3])) w :=
  run_eql_bytes (P := Tryd.prog) w 104 5 4 Tryd.underlying104 Tryd.underlying5 size5 [q0, q1, q2, q3] [r0, r1, r2, r3] rfl rfl
theorem eql4_same (q0 q1 q2 q3 : UInt8) (w : World) : (binOp .eql 104 (.agg #[B8 q0, B8 q1, B8 q2, B8 q3]) (.agg #[B8 q0, B8 q1, B8 q2, B8 q3])).run Tryd.prog w = .ok (.bool true) w := by
  rw [eql4]
  simp
theorem wpList_loadM {P : Program} (w : World) {ops : Array Oper} {rest : List Oper} {op : Oper} {a : Act} {Q : Exit → Act → World → Prop} (hgd : op.guard = none) (ty : TypeId) (x : Operand) (ho : op.op = .load ty x)
    (b o : Nat) (hx : a.eval x = .pointer (some ⟨b, o, none⟩)) (cs : Array Value) (hc : ∀ j v, cs[j]? = some v → w.cell? ⟨b, o + j, none⟩ = some v) (d : TypeDesc)
    (hu : P.underlying ty = some d) (hd : d.isRow = true) (hi : (P.info? ty).map (·.size) = some cs.size)
    (h : wpList P ops Q rest (a.put op.dst (.agg cs)) w) : wpList P ops Q (op :: rest) a w := by
  have h' := wpList_load_mid (P := P) (ops := ops) (rest := rest) (Q := Q) hgd ty x ho b o hx cs.toList d (fun j v hv => hc j v (by simpa using hv)) hu hd (by simpa using hi)
  simp only [Array.toArray_toList] at h'
  exact h' h
theorem sha4 (l : List UInt8) : ((sha l).take 4).length = 4 := by simp [sha_length]
theorem peek50 (b o c : Nat) (body : List UInt8) (w : World) (hl : body.length = 36) (k : Nat) (hk : k ≤ 4) (hc : 50 ≤ c) (hb : Bs w (some ⟨b, o, none⟩) ((frameL 5 body).take (46 + k))) :
    Calls Tryd.prog 37 #[.slice (some ⟨b, o, none⟩) (46 + k) c] w fun e w' => e = .returned (.tuple #[.int .i64 5, .int .i64 50]) ∧ ∃ m, w' = w.drewN m := by
  have e : (frameL 5 body).take (46 + k) = headL 5 (four 36) ((body ++ (sha (preL 5 body)).take 4).take (36 + k)) := by
    rw [frame_head, hl]
    simp only [headL, four, List.cons_append, List.nil_append]
    rw [show 46 + k = (36 + k) + 10 from by omega]
    simp only [List.take_succ_cons]
  rw [e] at hb
  have hr : ((body ++ (sha (preL 5 body)).take 4).take (36 + k)).length = 36 + k := by
    rw [List.length_take, List.length_append, sha4, hl]
    omega
  have h := peek_ok b o c 5 (four 36) ((body ++ (sha (preL 5 body)).take 4).take (36 + k)) w rfl (by decide) (by decide) (by decide) (by omega) (by omega) hb
  rw [hr, show 10 + (36 + k) = 46 + k from by omega] at h
  exact h

theorem results_cell2 {P : Program} {fn : Func} {p1 p2 : Tmp} {t1 t2 : TypeId} (h : fn.results = #[.cell p1 t1, .cell p2 t2]) (tmps : Array Value) (w : World) (a1 a2 : Addr) (v1 v2 : Value)
    (hp1 : tmps.getD p1 undef = .pointer (some a1)) (hp2 : tmps.getD p2 undef = .pointer (some a2)) (h1 : (loadVar t1 a1).run P w = .ok v1 w) (h2 : (loadVar t2 a2).run P w = .ok v2 w) :
    (results fn tmps).run P w = .ok (.tuple #[v1, v2]) w := by
  have hp1' : tmps[p1]?.getD undef = .pointer (some a1) := by simpa using hp1
  have hp2' : tmps[p2]?.getD undef = .pointer (some a2) := by simpa using hp2
  simp [results, h, hp1', hp2', asAddr, h1, h2]
/-- A refusal as it is decoded. -/
def zeros (n : Nat) : List UInt8 := List.replicate n 0
def refuseM (sess : List UInt8) (f t : UInt8) (n : Nat) : Msg := ⟨5, sess, nb f, nb t, ⟨0, zeros 32, zeros 32⟩, [], [], zeros 32, zeros 32, zeros 64, n⟩
theorem zeros_getD (n i : Nat) : (zeros n).getD i 0 = 0 := by
  unfold zeros
  rw [List.getD_eq_getElem?_getD, List.getElem?_replicate]
  split <;> rfl
theorem zrow (o n : Nat) (h : (List.range n).map (fun i => Tryd.zeroCells107[2 + (o + i)]?) = List.replicate n (some (Value.int .u8 0))) (i : Nat) (hi : i < n) : Tryd.zeroCells107[2 + (o + i)]? = some (B8 0) := by
  have h2 := congrArg (fun l => l[i]?) h
  simp only [List.getElem?_map, List.getElem?_range hi, Option.map_some, List.getElem?_replicate, if_pos hi] at h2
  have e : B8 0 = .int .u8 0 := rfl
  rw [e]
  simpa using h2

set_option maxHeartbeats 8000000 in
theorem decode_refuse (b o c : Nat) (sess : List UInt8) (f t : UInt8) (n : Nat) (w : World) (hs : sess.length = 32) (hn1 : 1 ≤ n) (hn2 : n ≤ 65535) (hc : 50 ≤ c) (hlt : b < w.heap.size)
    (hb : Bs w (some ⟨b, o, none⟩) (frameL 5 (sess ++ [f, t] ++ two n))) :
    Calls Tryd.prog 11 #[.slice (some ⟨b, o, none⟩) 50 c] w fun e w' => ∃ cs, e = .returned (.tuple #[.agg cs, .nilIface]) ∧ MsgC cs (refuseM sess f t n) (.slice none 0 0) (.slice none 0 0) ∧ Below w.heap.size w w' := by
  replace hb := Lib.hid hb
  go_enter_defers Tryd.func11, Tryd.ntmps11
  go_upto_region 2 with fail
  have hZ : ((w.alloc (.cells Tryd.zeroCells36 36)).alloc (.cells #[.nilIface] 38)).heap[w.heap.size]? = some (.cells Tryd.zeroCells36 36 (0, 0)) := by
    rw [heap_alloc?, if_neg (by simp)]; exact heap_alloc_new w _
  have hE : ((w.alloc (.cells Tryd.zeroCells36 36)).alloc (.cells #[.nilIface] 38)).heap[w.heap.size + 1]? = some (.cells #[.nilIface] 38 (0, 0)) := by
    rw [heap_alloc?, if_pos (by simp)]
  have hB : Below w.heap.size w ((w.alloc (.cells Tryd.zeroCells36 36)).alloc (.cells #[.nilIface] 38)) := later (boxed _ _) (boxed _ _)
  have hsz : ((w.alloc (.cells Tryd.zeroCells36 36)).alloc (.cells #[.nilIface] 38)).heap.size = w.heap.size + 2 := by simp
  generalize (w.alloc (.cells Tryd.zeroCells36 36)).alloc (.cells #[.nilIface] 38) = w1 at hZ hE hB hsz ⊢
  have hb1 := hb.out.on hB
  have hl36 : (sess ++ [f, t] ++ two n).length = 36 := by simp [hs, two]
  have hfl : (frameL 5 (sess ++ [f, t] ++ two n)).length = 50 := by simp [frameL, preL, four, sha_length, hs, two]
  replace hZ := Lib.hid hZ
  replace hE := Lib.hid hE
  go_wp2_with fail
  refine (peek50 b o c _ w1 hl36 4 (by omega) hc (by rw [List.take_of_length_le (by omega)]; exact hb1)).mono ?_
  rintro e w2 ⟨rfl, md, hw2⟩
  have hb2 : Bs w2 (some ⟨b, o, none⟩) (frameL 5 (sess ++ [f, t] ++ two n)) := by rw [hw2]; exact hb1
  have hB2 : Below w.heap.size w w2 := by rw [hw2]; exact below_drewN hB md
  have hs2 : w2.heap.size = w.heap.size + 2 := by rw [hw2]; exact hsz
  have hZ2 : w2.heap[w.heap.size]? = some (.cells Tryd.zeroCells36 36 (0, 0)) := by rw [hw2]; exact hZ.out
  have hE2 : w2.heap[w.heap.size + 1]? = some (.cells #[.nilIface] 38 (0, 0)) := by rw [hw2]; exact hE.out
  have hbp : Bs w2 (some ⟨b, o, none⟩) (preL 5 (sess ++ [f, t] ++ two n)) := by
    have h := hb2.take 46
    have e : (frameL 5 (sess ++ [f, t] ++ two n)).take 46 = preL 5 (sess ++ [f, t] ++ two n) := by
      rw [frameL, List.take_append_of_le_length (by simp [preL, four, hs, two]), List.take_of_length_le (by simp [preL, four, hs, two])]
    rw [e] at h
    exact h
  have hpl : (preL 5 (sess ++ [f, t] ++ two n)).length = 46 := by simp [preL, four, hs, two]
  replace hZ2 := Lib.hid hZ2
  replace hE2 := Lib.hid hE2
  replace hb2 := Lib.hid hb2
  replace hbp := Lib.hid hbp
  replace hB2 := Lib.hid hB2
  have hc46 : (46 : Int) ≤ (c : Int) := by omega
  have hc50 : (50 : Int) ≤ (c : Int) := by omega
  clear hw2 hZ hE hB hsz hb1 hb
  go_wp2_with fail
  refine (need_same _ _ _ _).mono ?_
  rintro e w' ⟨rfl, rfl⟩
  go_wp2_with fail
  refine (need_same _ _ _ _).mono ?_
  rintro e w2 ⟨rfl, rfl⟩
  go_wp2_with fail
  have hsum := sum1_any b o c (preL 5 (sess ++ [f, t] ++ two n)) w2 (by omega) (by omega) hbp.out (by omega)
  rw [hpl] at hsum
  refine hsum.mono ?_
  rintro e w3 ⟨rfl, hB3⟩
  clear hsum
  rename_i hK
  have hs3 := hB3.size
  have hD := sha_length (preL 5 (sess ++ [f, t] ++ two n))
  have hb3 := hb2.out.on hB3
  have hfx : ∀ i, i < 4 → (frameL 5 (sess ++ [f, t] ++ two n)).getD (46 + i) 0 = (sha (preL 5 (sess ++ [f, t] ++ two n))).getD i 0 := fun i hi => by
    rw [frameL, List.getD_eq_getElem?_getD, List.getElem?_append_right (by omega), hpl, show 46 + i - 46 = i from by omega, ← List.getD_eq_getElem?_getD, getD_take _ hi]
  have hcl := fun i (hi : i < 4) => hb3.at (46 + i) (by rw [hfl]; omega)
  have x0 : w3.cell? ⟨b, o + 46, none⟩ = some (B8 ((sha (preL 5 (sess ++ [f, t] ++ two n))).getD 0 0)) := by rw [← hfx 0 (by omega)]; exact hcl 0 (by omega)
  have x1 : w3.cell? ⟨b, o + 46 + 1, none⟩ = some (B8 ((sha (preL 5 (sess ++ [f, t] ++ two n))).getD 1 0)) := by rw [← hfx 1 (by omega)]; exact hcl 1 (by omega)
  have x2 : w3.cell? ⟨b, o + 46 + 2, none⟩ = some (B8 ((sha (preL 5 (sess ++ [f, t] ++ two n))).getD 2 0)) := by rw [← hfx 2 (by omega)]; exact hcl 2 (by omega)
  have x3 : w3.cell? ⟨b, o + 46 + 3, none⟩ = some (B8 ((sha (preL 5 (sess ++ [f, t] ++ two n))).getD 3 0)) := by rw [← hfx 3 (by omega)]; exact hcl 3 (by omega)
  have hsz : ((sha (preL 5 (sess ++ [f, t] ++ two n))).map B8).toArray.size = 64 := by rw [List.size_toArray, List.length_map, hD]
  have hone : ((sha (preL 5 (sess ++ [f, t] ++ two n))).map B8).toArray.all (·.oneCell') = true := all_oneCell_toArray one_bytes
  have hget : ∀ i, i < 64 → ((sha (preL 5 (sess ++ [f, t] ++ two n))).map B8).toArray[i]? = some (B8 ((sha (preL 5 (sess ++ [f, t] ++ two n))).getD i 0)) := fun i hi => by
    rw [List.getElem?_toArray, List.getElem?_map, List.getD_eq_getElem?_getD, List.getElem?_eq_getElem (show i < (sha (preL 5 (sess ++ [f, t] ++ two n))).length by omega)]
    rfl
  clear hfx hcl hbp hb2 hD
  have hb3 := Lib.hid hb3
  have hZ3 := Lib.hid (heap_on hB3 hZ2.out)
  have hE3 := Lib.hid (heap_on hB3 hE2.out)
  have hB33 := Lib.hid (later' hB2.out hB3)
  clear hZ2 hE2 hB2 hB3
  refine hK _ _ ?_
  clear hK
  generalize ((sha (preL 5 (sess ++ [f, t] ++ two n))).map B8).toArray = D at hsz hone hget ⊢
  generalize (sha (preL 5 (sess ++ [f, t] ++ two n))) = S at hget x0 x1 x2 x3
  have hif : (Tryd.prog.info? 97).map (·.size) = some D.size := by rw [hsz]; kernel_rfl
  refine wpList_value (w' := w3.alloc (.cells z64 97)) rfl (.pointer (some ⟨w3.heap.size, 0, none⟩)) (by kernel_rfl) ?_
  refine wpList_skips (w' := w3.alloc (.cells D 97)) rfl ?_ ?_
  · have h := run_storeAt_new (P := Tryd.prog) w3 97 z64 D hif (by rw [hsz]; rfl) hone
    show (Instr.storeAt 97 (.pointer (some ⟨w3.heap.size, 0, none⟩)) (.agg D) >>= fun _ => pure Next.skip : Sem Next).run Tryd.prog _ = _
    simp only [Sem.run_bind, h, Result.andThen, Sem.run_pure]
  refine wpList_nil ?_
  simp only [Act.put]
  have hDn := heap_alloc_new w3 (.cells D 97)
  have hB34 := boxed w3 (.cells D 97)
  have y0 : (w3.alloc (.cells D 97)).cell? ⟨w3.heap.size, 0, none⟩ = some (B8 (S.getD 0 0)) := cell_of hDn (hget 0 (by omega))
  have y1 : (w3.alloc (.cells D 97)).cell? ⟨w3.heap.size, 1, none⟩ = some (B8 (S.getD 1 0)) := cell_of hDn (hget 1 (by omega))
  have y2 : (w3.alloc (.cells D 97)).cell? ⟨w3.heap.size, 2, none⟩ = some (B8 (S.getD 2 0)) := cell_of hDn (hget 2 (by omega))
  have y3 : (w3.alloc (.cells D 97)).cell? ⟨w3.heap.size, 3, none⟩ = some (B8 (S.getD 3 0)) := cell_of hDn (hget 3 (by omega))
  have x0 := cell_on hB34 x0
  have x1 := cell_on hB34 x1
  have x2 := cell_on hB34 x2
  have x3 := cell_on hB34 x3
  have hb4 := Lib.hid (hb3.out.on hB34)
  have hZ4 := Lib.hid (heap_on hB34 hZ3.out)
  have hE4 := Lib.hid (heap_on hB34 hE3.out)
  have hB44 := Lib.hid (later' hB33.out hB34)
  have hs4 : (w3.alloc (.cells D 97)).heap.size = w3.heap.size + 1 := by simp
  clear hDn hB34 hget hone hif hsz hZ3 hE3 hB33 hb3
  generalize w3.alloc (.cells D 97) = w4 at *
  generalize S.getD 0 0 = q0 at *
  generalize S.getD 1 0 = q1 at *
  generalize S.getD 2 0 = q2 at *
  generalize S.getD 3 0 = q3 at *
  have ha4 := arrAt4
  have he4 := eql4_same q0 q1 q2 q3
  have hc1 : ¬ (c = 46) := by omega
  have hw46 : IntKind.i64.wrap 46 = 46 := rfl
  have hc2 : (4 : Int) ≤ ((c - 46 : Nat) : Int) := by omega
  go_wp2_with fail
  go_quiet ((go_at_call 38; exact Calls.quiet_of_same (need_same _ _ _ _)))
  have hb5 : Hid (Bs (w4.drewN nq) (some ⟨b, o, none⟩) (frameL 5 (sess ++ [f, t] ++ two n))) := Lib.hid hb4.out
  have hZ5 : Hid ((w4.drewN nq).heap[w.heap.size]? = some (.cells Tryd.zeroCells36 36 (0, 0))) := Lib.hid hZ4.out
  have hE5 : Hid ((w4.drewN nq).heap[w.heap.size + 1]? = some (.cells #[.nilIface] 38 (0, 0))) := Lib.hid hE4.out
  have hB55 : Hid (Below w.heap.size w (w4.drewN nq)) := Lib.hid (below_drewN hB44.out nq)
  have hs5 : (w4.drewN nq).heap.size = w3.heap.size + 1 := hs4
  clear hb4 hZ4 hE4 hB44 hs4 x0 x1 x2 x3 y0 y1 y2 y3 he4
  generalize w4.drewN nq = w5 at hb5 hZ5 hE5 hB55 hs5 ⊢
  go_upto_region 8 with fail
  have hR := heap_alloc_new w5 (.cells ((Tryd.zeroCells107.setIfInBounds 0 (.slice (some ⟨b, o, none⟩) 46 c)).setIfInBounds 1 (.int .i64 10)) 107)
  have hzs : Tryd.zeroCells107.size = 233 := by kernel_rfl
  rw [hs5] at hR
  have hb6 := Lib.hid (hb5.out.on (boxed w5 (.cells ((Tryd.zeroCells107.setIfInBounds 0 (.slice (some ⟨b, o, none⟩) 46 c)).setIfInBounds 1 (.int .i64 10)) 107)))
  have hZ6 := Lib.hid (heap_on (boxed w5 (.cells ((Tryd.zeroCells107.setIfInBounds 0 (.slice (some ⟨b, o, none⟩) 46 c)).setIfInBounds 1 (.int .i64 10)) 107)) hZ5.out)
  have hE6 := Lib.hid (heap_on (boxed w5 (.cells ((Tryd.zeroCells107.setIfInBounds 0 (.slice (some ⟨b, o, none⟩) 46 c)).setIfInBounds 1 (.int .i64 10)) 107)) hE5.out)
  have hB6 := Lib.hid (later' hB55.out (boxed w5 (.cells ((Tryd.zeroCells107.setIfInBounds 0 (.slice (some ⟨b, o, none⟩) 46 c)).setIfInBounds 1 (.int .i64 10)) 107)))
  have hs6 : (w5.alloc (.cells ((Tryd.zeroCells107.setIfInBounds 0 (.slice (some ⟨b, o, none⟩) 46 c)).setIfInBounds 1 (.int .i64 10)) 107)).heap.size = w3.heap.size + 2 := by simp [hs5]
  clear hb5 hZ5 hE5 hB55
  generalize w5.alloc (.cells ((Tryd.zeroCells107.setIfInBounds 0 (.slice (some ⟨b, o, none⟩) 46 c)).setIfInBounds 1 (.int .i64 10)) 107) = w6 at hR hb6 hZ6 hE6 hB6 hs6 ⊢
  have hRl : w.heap.size + 2 ≤ w3.heap.size + 1 := by omega
  generalize hRe : w3.heap.size + 1 = R at hR hRl ⊢
  obtain ⟨rs, hrs⟩ : ∃ rs, rs = (Tryd.zeroCells107.setIfInBounds 0 (.slice (some ⟨b, o, none⟩) 46 c)).setIfInBounds 1 (.int .i64 10) := ⟨_, rfl⟩
  rw [← hrs] at hR
  have r0 : rs[0]? = some (.slice (some ⟨b, o, none⟩) 46 c) := by
    rw [hrs, Array.getElem?_setIfInBounds_ne (by decide), Array.getElem?_setIfInBounds_self_of_lt (by omega)]
  have r1 : rs[1]? = some (.int .i64 10) := by
    rw [hrs, Array.getElem?_setIfInBounds_self_of_lt (by simp [hzs])]
  have rz : ∀ j, 2 ≤ j → rs[j]? = Tryd.zeroCells107[j]? := fun j hj => by
    rw [hrs, Array.getElem?_setIfInBounds_ne (by omega), Array.getElem?_setIfInBounds_ne (by omega)]
  have rsz : rs.size = 233 := by rw [hrs]; simp [hzs]
  clear hrs hzs
  have rz2 : w6.cell? ⟨R, 2, none⟩ = some (.int .i64 0) := cell_of hR (by rw [rz 2 (by omega)]; kernel_rfl)
  have rf2 : w6.frozen? ⟨R, 2, none⟩ = false := free_of hR
  replace rz := Lib.hid rz
  replace hR := Lib.hid hR
  go_upto_region 9 with fail
  -- the kind is written
  have hR7 := heap_set (o := 2) hR.out (.int .i64 5)
  have hK7 : Keep (fun k => k = R) w6 (w6.setCell ⟨R, 2, none⟩ (.int .i64 5)) := Keep.set (fun k => k = R) R 2 _ rfl
  have hbR : ∀ a : Addr, (some ⟨b, o, none⟩ : Option Addr) = some a → ¬ a.block = R := fun a ha => by cases ha; show ¬ b = R; omega
  have hb7 := Lib.hid (hb6.out.keep hK7 hbR)
  generalize w6.setCell ⟨R, 2, none⟩ (.int .i64 5) = w7 at hR7 hK7 hb7 ⊢
  obtain ⟨rs7, hrs7⟩ : ∃ x, x = rs.setIfInBounds 2 (.int .i64 5) := ⟨_, rfl⟩
  rw [← hrs7] at hR7
  have a0 : rs7[0]? = some (.slice (some ⟨b, o, none⟩) 46 c) := by rw [hrs7, Array.getElem?_setIfInBounds_ne (by decide)]; exact r0
  have a1 : rs7[1]? = some (.int .i64 10) := by rw [hrs7, Array.getElem?_setIfInBounds_ne (by decide)]; exact r1
  have a2 : rs7[2]? = some (.int .i64 5) := by rw [hrs7, Array.getElem?_setIfInBounds_self_of_lt (by omega)]
  have az : Hid (∀ j, 3 ≤ j → rs7[j]? = Tryd.zeroCells107[j]?) := Lib.hid fun j hj => by rw [hrs7, Array.getElem?_setIfInBounds_ne (by omega)]; exact rz.out j (by omega)
  have asz : rs7.size = 233 := by rw [hrs7]; simp [rsz]
  have l1 : w7.cell? ⟨R, 1, none⟩ = some (.int .i64 10) := cell_of hR7 a1
  replace hR7 := Lib.hid hR7
  replace hK7 := Lib.hid hK7
  clear hrs7 r0 r1 rz2 rf2 hR rz rsz
  -- the session
  go_wp2_with fail
  refine (take_ok R b o 46 c 10 32 rs7 w7 _ _ ⟨hR7.out, a0, a1⟩ (by omega) (by omega) (by omega)).mono ?_
  rintro e w8 ⟨rfl, hR8, hK8⟩
  rename_i hK
  have hK68 := Lib.hid (hK7.out.trans hK8)
  have hb8 := hb7.out.keep hK8 hbR
  have hss : Bs w8 (some ⟨b, o + 10, none⟩) sess := by
    have h := (hb8.drop 10).take 32
    have e : ((frameL 5 (sess ++ [f, t] ++ two n)).drop 10).take 32 = sess := by
      rw [frame_head, hl36]
      show List.take 32 ((sess ++ [f, t] ++ two n) ++ _) = sess
      rw [List.append_assoc, List.append_assoc, List.take_append_of_le_length (by omega), List.take_of_length_le (by omega)]
    rw [e] at h
    exact h
  refine hK _ _ ?_
  clear hK
  refine wpList_value (w' := w8) rfl (.pointer (some ⟨b, o + 10, none⟩)) (by
    show (Instr.arrayAt 26 (.slice (some ⟨b, o + 10, none⟩) 32 (c - 10)) >>= fun v => pure (Next.value v) : Sem Next).run Tryd.prog w8 = _
    simp only [Sem.run_bind, arrAt32, Result.andThen, Sem.run_pure]) ?_
  have hif : (Tryd.prog.info? 26).map (·.size) = some (sess.map B8).length := by rw [List.length_map, hs]; kernel_rfl
  refine wpList_load_mid rfl _ _ rfl b (o + 10) rfl (sess.map B8) _ hss.range Tryd.underlying26 rfl hif ?_
  have hif2 : (Tryd.prog.info? 26).map (·.size) = some (sess.map B8).toArray.size := by rw [List.size_toArray]; exact hif
  have hone : (sess.map B8).toArray.all (·.oneCell') = true := all_oneCell_toArray one_bytes
  have hsl : (sess.map B8).toArray.toList = sess.map B8 := rfl
  have hssz : (sess.map B8).toArray.size = 32 := by simp [hs]
  generalize (sess.map B8).toArray = SA at hif2 hone hsl hssz ⊢
  have hth := there_of hR8 3 SA.size (by simp [asz, hssz])
  replace hb8 := Lib.hid hb8
  clear hss hif l1
  go_upto_region 10 with (refine wpList_store_mid rfl _ _ _ rfl R 3 SA rfl rfl hth hif2 hone ?_)
  try rw [hsl]
  have hR9 := setCells_heap w8 R 3 (sess.map B8) hR8
  have hK9 := hK68.out.trans (setCells_keep w8 R 3 (sess.map B8))
  have hb9 := Lib.hid (hb8.out.keep (setCells_keep w8 R 3 (sess.map B8)) hbR)
  generalize w8.setCells R 3 (sess.map B8) = w9 at hR9 hK9 hb9 ⊢
  obtain ⟨rs9, hrs9⟩ : ∃ x, x = setRange (rs7.setIfInBounds 1 (.int .i64 ((10 + 32 : Nat) : Int))) 3 (sess.map B8) := ⟨_, rfl⟩
  rw [← hrs9] at hR9
  have hml : (sess.map B8).length = 32 := by simp [hs]
  have b0 : rs9[0]? = some (.slice (some ⟨b, o, none⟩) 46 c) := by rw [hrs9, setRange_out _ _ _ _ (by omega), Array.getElem?_setIfInBounds_ne (by decide)]; exact a0
  have b1 : rs9[1]? = some (.int .i64 42) := by rw [hrs9, setRange_out _ _ _ _ (by omega), Array.getElem?_setIfInBounds_self_of_lt (by omega)]; rfl
  have b2 : rs9[2]? = some (.int .i64 5) := by rw [hrs9, setRange_out _ _ _ _ (by omega), Array.getElem?_setIfInBounds_ne (by decide)]; exact a2
  have bs : Hid (∀ j, j < 32 → rs9[3 + j]? = some (B8 (sess.getD j 0))) := Lib.hid fun j hj => by
    rw [hrs9, setRange_in _ _ _ _ (by omega) (by simp [asz, hml]), List.getElem?_map, List.getD_eq_getElem?_getD, List.getElem?_eq_getElem (by omega)]
    rfl
  have bz : Hid (∀ j, 35 ≤ j → rs9[j]? = Tryd.zeroCells107[j]?) := Lib.hid fun j hj => by
    rw [hrs9, setRange_out _ _ _ _ (by omega), Array.getElem?_setIfInBounds_ne (by omega)]; exact az.out j (by omega)
  have bsz : rs9.size = 233 := by rw [hrs9, setRange_size]; simp [asz]
  have l1 : w9.cell? ⟨R, 1, none⟩ = some (.int .i64 42) := cell_of hR9 b1
  have l35 : w9.cell? ⟨R, 35, none⟩ = some (.int .i64 0) := cell_of hR9 (by rw [bz.out 35 (by omega)]; kernel_rfl)
  have hx42 := hb9.out.at 42 (by rw [hfl]; omega)
  replace hR9 := Lib.hid hR9
  replace hK9 := Lib.hid hK9
  clear hrs9 hR8 hK8 hK68 hb8 hth hif2 hone hsl hssz a0 a1 a2 az asz hR7 hK7 hb7
  -- from
  have hfe : (frameL 5 (sess ++ [f, t] ++ two n)).getD 42 0 = f ∧ (frameL 5 (sess ++ [f, t] ++ two n)).getD 43 0 = t := by
    rw [frame_head, hl36]
    have e : headL 5 (four 36) ((sess ++ [f, t] ++ two n) ++ (sha (preL 5 (sess ++ [f, t] ++ two n))).take 4) = ([82, 73, 77, 69, 1, 5] ++ four 36 ++ sess) ++ (f :: t :: (two n ++ (sha (preL 5 (sess ++ [f, t] ++ two n))).take 4)) := by simp [headL]
    have e2 : ([82, 73, 77, 69, 1, 5] ++ four 36 ++ sess).length = 42 := by simp [four, hs]
    rw [e]
    constructor
    · rw [List.getD_eq_getElem?_getD, List.getElem?_append_right (by omega), e2]
      rfl
    · rw [List.getD_eq_getElem?_getD, List.getElem?_append_right (by omega), e2]
      rfl
  rw [hfe.1] at hx42
  go_wp2_with fail
  refine (take_ok R b o 46 c 42 1 rs9 w9 _ _ ⟨hR9.out, b0, b1⟩ (by omega) (by omega) (by omega)).mono ?_
  rintro e w10 ⟨rfl, hR10, hK10⟩
  have m42 : w10.cell? ⟨b, o + 42, none⟩ = some (B8 f) := hK10.cell (by show ¬ b = R; omega) hx42
  have m35 : w10.cell? ⟨R, 35, none⟩ = some (.int .i64 0) := cell_of hR10 (by rw [Array.getElem?_setIfInBounds_ne (by decide), bz.out 35 (by omega)]; kernel_rfl)
  have mf : w10.frozen? ⟨R, 35, none⟩ = false := free_of hR10
  have hwf : IntKind.i64.wrap (nb f) = nb f := by have := nb_bd f; rw [IntKind.wrap_i64]; omega
  have hwf2 : wrap64 (nb f) = nb f := by have := nb_bd f; exact IntWalk.wrap64_in _ ⟨by omega, by omega⟩
  have hK610 := Lib.hid (hK9.out.trans hK10)
  have hb10 := Lib.hid (hb9.out.keep hK10 hbR)
  replace hR10 := Lib.hid hR10
  clear hx42 l1 l35 hK10 hfe
  go_upto_region 11 with fail
  have hR11 := heap_set (o := 35) hR10.out (.int .i64 (nb f))
  have hK11 := hK610.out.trans (Keep.set (fun k => k = R) R 35 (.int .i64 (nb f)) rfl)
  have hb11 := Lib.hid (hb10.out.keep (Keep.set (fun k => k = R) R 35 (.int .i64 (nb f)) rfl) hbR)
  generalize w10.setCell ⟨R, 35, none⟩ (.int .i64 (nb f)) = w11 at hR11 hK11 hb11 ⊢
  obtain ⟨rs11, hrs11⟩ : ∃ x, x = (rs9.setIfInBounds 1 (.int .i64 ((42 + 1 : Nat) : Int))).setIfInBounds 35 (.int .i64 (nb f)) := ⟨_, rfl⟩
  rw [← hrs11] at hR11
  have c0 : rs11[0]? = some (.slice (some ⟨b, o, none⟩) 46 c) := by rw [hrs11, Array.getElem?_setIfInBounds_ne (by decide), Array.getElem?_setIfInBounds_ne (by decide)]; exact b0
  have c1 : rs11[1]? = some (.int .i64 43) := by rw [hrs11, Array.getElem?_setIfInBounds_ne (by decide), Array.getElem?_setIfInBounds_self_of_lt (by omega)]; rfl
  have c2 : rs11[2]? = some (.int .i64 5) := by rw [hrs11, Array.getElem?_setIfInBounds_ne (by decide), Array.getElem?_setIfInBounds_ne (by decide)]; exact b2
  have cs3 : Hid (∀ j, j < 32 → rs11[3 + j]? = some (B8 (sess.getD j 0))) := Lib.hid fun j hj => by
    rw [hrs11, Array.getElem?_setIfInBounds_ne (by omega), Array.getElem?_setIfInBounds_ne (by omega)]; exact bs.out j hj
  have c35 : rs11[35]? = some (.int .i64 (nb f)) := by rw [hrs11, Array.getElem?_setIfInBounds_self_of_lt (by simp [bsz])]
  have cz : Hid (∀ j, 36 ≤ j → rs11[j]? = Tryd.zeroCells107[j]?) := Lib.hid fun j hj => by
    rw [hrs11, Array.getElem?_setIfInBounds_ne (by omega), Array.getElem?_setIfInBounds_ne (by omega)]; exact bz.out j (by omega)
  have csz : rs11.size = 233 := by rw [hrs11]; simp [bsz]
  have l1 : w11.cell? ⟨R, 1, none⟩ = some (.int .i64 43) := cell_of hR11 c1
  have hx43 := hb11.out.at 43 (by rw [hfl]; omega)
  replace hR11 := Lib.hid hR11
  replace hK11 := Lib.hid hK11
  clear hrs11 hR10 hK610 hb10 m42 m35 mf hwf hwf2 b0 b1 b2 bs bz bsz hR9 hK9 hb9
  -- to
  have hfe : (frameL 5 (sess ++ [f, t] ++ two n)).getD 43 0 = t := by
    rw [frame_head, hl36]
    have e : headL 5 (four 36) ((sess ++ [f, t] ++ two n) ++ (sha (preL 5 (sess ++ [f, t] ++ two n))).take 4) = ([82, 73, 77, 69, 1, 5] ++ four 36 ++ sess) ++ (f :: t :: (two n ++ (sha (preL 5 (sess ++ [f, t] ++ two n))).take 4)) := by simp [headL]
    have e2 : ([82, 73, 77, 69, 1, 5] ++ four 36 ++ sess).length = 42 := by simp [four, hs]
    rw [e, List.getD_eq_getElem?_getD, List.getElem?_append_right (by omega), e2]
    rfl
  rw [hfe] at hx43
  go_wp2_with fail
  refine (take_ok R b o 46 c 43 1 rs11 w11 _ _ ⟨hR11.out, c0, c1⟩ (by omega) (by omega) (by omega)).mono ?_
  rintro e w12 ⟨rfl, hR12, hK12⟩
  have m43 : w12.cell? ⟨b, o + 43, none⟩ = some (B8 t) := hK12.cell (by show ¬ b = R; omega) hx43
  have m36 : w12.cell? ⟨R, 36, none⟩ = some (.int .i64 0) := cell_of hR12 (by rw [Array.getElem?_setIfInBounds_ne (by decide), cz.out 36 (by omega)]; kernel_rfl)
  have mf : w12.frozen? ⟨R, 36, none⟩ = false := free_of hR12
  have hwf : IntKind.i64.wrap (nb t) = nb t := by have := nb_bd t; rw [IntKind.wrap_i64]; omega
  have hwf2 : wrap64 (nb t) = nb t := by have := nb_bd t; exact IntWalk.wrap64_in _ ⟨by omega, by omega⟩
  have hK612 := Lib.hid (hK11.out.trans hK12)
  have hb12 := Lib.hid (hb11.out.keep hK12 hbR)
  replace hR12 := Lib.hid hR12
  clear hx43 l1 hK12 hfe
  go_upto_region 12 with fail
  have hR13 := heap_set (o := 36) hR12.out (.int .i64 (nb t))
  have hK13 := hK612.out.trans (Keep.set (fun k => k = R) R 36 (.int .i64 (nb t)) rfl)
  have hb13 := Lib.hid (hb12.out.keep (Keep.set (fun k => k = R) R 36 (.int .i64 (nb t)) rfl) hbR)
  generalize w12.setCell ⟨R, 36, none⟩ (.int .i64 (nb t)) = w13 at hR13 hK13 hb13 ⊢
  obtain ⟨rs13, hrs13⟩ : ∃ x, x = (rs11.setIfInBounds 1 (.int .i64 ((43 + 1 : Nat) : Int))).setIfInBounds 36 (.int .i64 (nb t)) := ⟨_, rfl⟩
  rw [← hrs13] at hR13
  have d0 : rs13[0]? = some (.slice (some ⟨b, o, none⟩) 46 c) := by rw [hrs13, Array.getElem?_setIfInBounds_ne (by decide), Array.getElem?_setIfInBounds_ne (by decide)]; exact c0
  have d1 : rs13[1]? = some (.int .i64 44) := by rw [hrs13, Array.getElem?_setIfInBounds_ne (by decide), Array.getElem?_setIfInBounds_self_of_lt (by omega)]; rfl
  have d2 : rs13[2]? = some (.int .i64 5) := by rw [hrs13, Array.getElem?_setIfInBounds_ne (by decide), Array.getElem?_setIfInBounds_ne (by decide)]; exact c2
  have ds3 : Hid (∀ j, j < 32 → rs13[3 + j]? = some (B8 (sess.getD j 0))) := Lib.hid fun j hj => by
    rw [hrs13, Array.getElem?_setIfInBounds_ne (by omega), Array.getElem?_setIfInBounds_ne (by omega)]; exact cs3.out j hj
  have d35 : rs13[35]? = some (.int .i64 (nb f)) := by rw [hrs13, Array.getElem?_setIfInBounds_ne (by decide), Array.getElem?_setIfInBounds_ne (by decide)]; exact c35
  have d36 : rs13[36]? = some (.int .i64 (nb t)) := by rw [hrs13, Array.getElem?_setIfInBounds_self_of_lt (by simp [csz])]
  have dz : Hid (∀ j, 37 ≤ j → rs13[j]? = Tryd.zeroCells107[j]?) := Lib.hid fun j hj => by
    rw [hrs13, Array.getElem?_setIfInBounds_ne (by omega), Array.getElem?_setIfInBounds_ne (by omega)]; exact cz.out j (by omega)
  have dsz : rs13.size = 233 := by rw [hrs13]; simp [csz]
  have l1 : w13.cell? ⟨R, 1, none⟩ = some (.int .i64 44) := cell_of hR13 d1
  replace hR13 := Lib.hid hR13
  replace hK13 := Lib.hid hK13
  clear hrs13 hR12 hK612 hb12 m43 m36 mf hwf hwf2 c0 c1 c2 cs3 cz csz c35 hR11 hK11 hb11
  -- the code
  go_wp2_with fail
  refine (take_ok R b o 46 c 44 2 rs13 w13 _ _ ⟨hR13.out, d0, d1⟩ (by omega) (by omega) (by omega)).mono ?_
  rintro e w14 ⟨rfl, hR14, hK14⟩
  have hcode : Bs w14 (some ⟨b, o + 44, none⟩) (two n) := by
    have h := ((hb13.out.keep hK14 hbR).drop 44).take 2
    have e : ((frameL 5 (sess ++ [f, t] ++ two n)).drop 44).take 2 = two n := by
      rw [frame_head, hl36]
      have e : headL 5 (four 36) ((sess ++ [f, t] ++ two n) ++ (sha (preL 5 (sess ++ [f, t] ++ two n))).take 4) = ([82, 73, 77, 69, 1, 5] ++ four 36 ++ sess ++ [f, t]) ++ (two n ++ (sha (preL 5 (sess ++ [f, t] ++ two n))).take 4) := by simp [headL]
      have e2 : ([82, 73, 77, 69, 1, 5] ++ four 36 ++ sess ++ [f, t]).length = 44 := by simp [four, hs]
      rw [e, List.drop_append, List.drop_of_length_le (by omega), e2]
      rfl
    rw [e] at h
    exact h
  have hn14 := numL_two n (by omega)
  have n232 : w14.cell? ⟨R, 232, none⟩ = some (.int .i64 0) := cell_of hR14 (by rw [Array.getElem?_setIfInBounds_ne (by decide), dz.out 232 (by omega)]; kernel_rfl)
  have nf : w14.frozen? ⟨R, 232, none⟩ = false := free_of hR14
  have hK614 := Lib.hid (hK13.out.trans hK14)
  have hb14 := Lib.hid (hb13.out.keep hK14 hbR)
  replace hR14 := Lib.hid hR14
  clear l1 hK14
  go_wp2_with fail
  have hnum := numberOf_any (some ⟨b, o + 44, none⟩) (c - 44) (two n) w14 hcode (by simp [two])
  rw [hn14] at hnum
  refine Calls.mono (show Calls Tryd.prog 43 #[.slice (some ⟨b, o + 44, none⟩) 2 (c - 44)] w14 _ from hnum) ?_
  rintro e w15 ⟨rfl, rfl⟩
  clear hnum hcode
  go_upto_region 24 with fail
  have hR15 := heap_set (o := 232) hR14.out (.int .i64 (n : Int))
  have hK15 := hK614.out.trans (Keep.set (fun k => k = R) R 232 (.int .i64 (n : Int)) rfl)
  generalize w14.setCell ⟨R, 232, none⟩ (.int .i64 (n : Int)) = w15 at hR15 hK15 ⊢
  obtain ⟨rsz, hrsz⟩ : ∃ x, x = (rs13.setIfInBounds 1 (.int .i64 ((44 + 2 : Nat) : Int))).setIfInBounds 232 (.int .i64 (n : Int)) := ⟨_, rfl⟩
  rw [← hrsz] at hR15
  have f0 : rsz[0]? = some (.slice (some ⟨b, o, none⟩) 46 c) := by rw [hrsz, Array.getElem?_setIfInBounds_ne (by decide), Array.getElem?_setIfInBounds_ne (by decide)]; exact d0
  have f1 : rsz[1]? = some (.int .i64 46) := by rw [hrsz, Array.getElem?_setIfInBounds_ne (by decide), Array.getElem?_setIfInBounds_self_of_lt (by omega)]; rfl
  have f2 : rsz[2]? = some (.int .i64 5) := by rw [hrsz, Array.getElem?_setIfInBounds_ne (by decide), Array.getElem?_setIfInBounds_ne (by decide)]; exact d2
  have fs3 : Hid (∀ j, j < 32 → rsz[3 + j]? = some (B8 (sess.getD j 0))) := Lib.hid fun j hj => by
    rw [hrsz, Array.getElem?_setIfInBounds_ne (by omega), Array.getElem?_setIfInBounds_ne (by omega)]; exact ds3.out j hj
  have f35 : rsz[35]? = some (.int .i64 (nb f)) := by rw [hrsz, Array.getElem?_setIfInBounds_ne (by decide), Array.getElem?_setIfInBounds_ne (by decide)]; exact d35
  have f36 : rsz[36]? = some (.int .i64 (nb t)) := by rw [hrsz, Array.getElem?_setIfInBounds_ne (by decide), Array.getElem?_setIfInBounds_ne (by decide)]; exact d36
  have f232 : rsz[232]? = some (.int .i64 (n : Int)) := by rw [hrsz, Array.getElem?_setIfInBounds_self_of_lt (by simp [dsz])]
  have fz : Hid (∀ j, 37 ≤ j → j ≠ 232 → rsz[j]? = Tryd.zeroCells107[j]?) := Lib.hid fun j hj hj2 => by
    rw [hrsz, Array.getElem?_setIfInBounds_ne (by omega), Array.getElem?_setIfInBounds_ne (by omega)]; exact dz.out j (by omega)
  have fsz : rsz.size = 233 := by rw [hrsz]; simp [dsz]
  have p0 : w15.cell? ⟨R, 0, none⟩ = some (.slice (some ⟨b, o, none⟩) 46 c) := cell_of hR15 f0
  have p1 : w15.cell? ⟨R, 1, none⟩ = some (.int .i64 46) := cell_of hR15 f1
  have p232 : w15.cell? ⟨R, 232, none⟩ = some (.int .i64 (n : Int)) := cell_of hR15 f232
  have hne : ¬ ((n : Int) = 0) := by omega
  replace hR15 := Lib.hid hR15
  replace hK15 := Lib.hid hK15
  clear hrsz hR14 hK614 hb14 n232 nf d0 d1 d2 ds3 dz dsz d35 d36 hR13 hK13 hb13
  go_wp2_with fail
  rw [show ((n : Int) != 0) = true from by simp; omega]
  refine (need_same _ _ _ _).mono ?_
  rintro e w16 ⟨rfl, rfl⟩
  go_wp2_with fail
  go_quiet ((go_at_call 38; exact Calls.quiet_of_same (need_same _ _ _ _)))
  have hRq : (w16.drewN nq).heap[R]? = some (.cells rsz 107 (0, 0)) := hR15.out
  have hKq := hK15.out.trans (Keep.drewN (D := fun k => k = R) (w := w16) nq)
  clear p0 p1 p232 hR15 hK15
  generalize w16.drewN nq = w17 at hRq hKq ⊢
  have hZq := hKq.heap (show ¬ w.heap.size = R by omega) hZ6.out
  have hEq := hKq.heap (show ¬ w.heap.size + 1 = R by omega) hE6.out
  have hBq := below_keep hB6.out hKq (fun i e => by omega) hB6.out.size
  go_upto_region 28 with fail
  obtain ⟨CS, hsz, hCS⟩ : ∃ CS : Array Value, CS.size = 231 ∧ ∀ j, CS[j]? = rsz[2 + j]? := ⟨(rsz.toList.drop 2).toArray, by simp [fsz], fun j => by simp [List.getElem?_drop]⟩
  have hrng : ∀ j v, CS[j]? = some v → w17.cell? ⟨R, 2 + j, none⟩ = some v := fun j v h => cell_of hRq (by rw [← hCS]; exact h)
  have hif : (Tryd.prog.info? 36).map (·.size) = some CS.size := by rw [hsz]; kernel_rfl
  have hz36 : Tryd.zeroCells36.size = CS.size := by rw [hsz]; kernel_rfl
  have hz1 : Tryd.zeroCells107.toList.all (·.oneCell') = true := by kernel_rfl
  have hone : CS.all (·.oneCell') = true := by
    refine Array.all_eq_true_iff_forall_mem.2 fun v hv => ?_
    obtain ⟨j, hj⟩ := Array.mem_iff_getElem?.1 hv
    rw [hCS] at hj
    by_cases e0 : j = 0
    · subst e0; rw [f2] at hj; cases hj; rfl
    by_cases e1 : j < 33
    · have h := fs3.out (j - 1) (by omega)
      rw [show 3 + (j - 1) = 2 + j from by omega, hj] at h
      cases h; rfl
    by_cases e2 : j = 33
    · subst e2; rw [f35] at hj; cases hj; rfl
    by_cases e3 : j = 34
    · subst e3; rw [f36] at hj; cases hj; rfl
    by_cases e4 : j = 230
    · subst e4; rw [f232] at hj; cases hj; rfl
    · rw [fz.out (2 + j) (by omega) (by omega)] at hj
      have hm : v ∈ Tryd.zeroCells107.toList := by
        rw [Array.mem_toList_iff]
        exact Array.mem_iff_getElem?.2 ⟨_, hj⟩
      exact List.all_eq_true.1 hz1 v hm
  have ge0 : w17.cell? ⟨w.heap.size + 1, 0, none⟩ = some .nilIface := cell_of hEq rfl
  have hsW := setRow_keep w17 w.heap.size CS
  have hE18 := hsW.heap (show ¬ w.heap.size + 1 = w.heap.size by omega) hEq
  have hD18 := setRow_heap w17 w.heap.size _ CS _ _ hZq
  have hB18 := below_keep hBq hsW (fun i e => by omega) hBq.size
  have ge1 : (w17.setRow w.heap.size CS).cell? ⟨w.heap.size + 1, 0, none⟩ = some .nilIface := cell_of hE18 rfl
  have gf1 : (w17.setRow w.heap.size CS).frozen? ⟨w.heap.size + 1, 0, none⟩ = false := free_of hE18
  replace hrng := Lib.hid hrng
  replace hCS := Lib.hid hCS
  replace hD18 := Lib.hid hD18
  replace hB18 := Lib.hid hB18
  replace hE18 := Lib.hid hE18
  replace hZq := Lib.hid hZq
  clear hz1 hEq hBq hKq hRq ge0 hsW
  go_wp2_with (first | (refine wpList_loadM _ rfl _ _ rfl R 2 rfl CS hrng.out _ Tryd.underlying36 rfl hif ?_) | (refine wpList_storeW _ rfl _ _ _ rfl w.heap.size CS rfl rfl _ _ hZq.out hif hz36 hone ?_))
  have hRow := hD18.out
  have hDz := (Keep.set (w := w17.setRow w.heap.size CS) (fun k => k = w.heap.size + 1) (w.heap.size + 1) 0 .nilIface rfl).heap (show ¬ w.heap.size = w.heap.size + 1 by omega) hD18.out
  have hEz : ((w17.setRow w.heap.size CS).setCell ⟨w.heap.size + 1, 0, none⟩ .nilIface).cell? ⟨w.heap.size + 1, 0, none⟩ = some .nilIface := cell_of (heap_set hE18.out _) rfl
  have hBz := hB18.out.setCell (p := ⟨w.heap.size + 1, 0, none⟩) (Nat.le_succ _) .nilIface
  generalize (w17.setRow w.heap.size CS).setCell ⟨w.heap.size + 1, 0, none⟩ .nilIface = wf at hDz hEz hBz ⊢
  have hL := run_loadVar_row (P := Tryd.prog) wf w.heap.size 36 36 CS (0, 0) _ hDz Tryd.underlying36 rfl hif
  have hL2 : (loadVar 38 ⟨w.heap.size + 1, 0, none⟩).run Tryd.prog wf = .ok .nilIface wf := by simp [go_sem, hEz]
  refine leaves_cons (f := 36) (args := #[.pointer (some ⟨w.heap.size + 1, 0, none⟩)]) (by simp) (by simp [go_sem]) ?_
  refine (caught_idle ⟨w.heap.size + 1, 0, none⟩ _).mono ?_
  rintro e u' w'' ⟨rfl, rfl, rfl⟩
  have hM : MsgC CS (refuseM sess f t n) (.slice none 0 0) (.slice none 0 0) := by
    have hc := hCS.out
    have z : ∀ j, 35 ≤ j → j ≠ 230 → CS[j]? = Tryd.zeroCells107[2 + j]? := fun j h1 h2 => by rw [hc, fz.out _ (by omega) (by omega)]
    refine ⟨hsz, by rw [hc]; exact f2, ⟨hs, fun i hi => ?_⟩, by rw [hc]; exact f35, by rw [hc]; exact f36, ?_, ⟨by simp [refuseM, zeros], fun i hi => ?_⟩, ⟨by simp [refuseM, zeros], fun i hi => ?_⟩, ?_, ?_, ⟨by simp [refuseM, zeros], fun i hi => ?_⟩, ⟨by simp [refuseM, zeros], fun i hi => ?_⟩, ⟨by simp [refuseM, zeros], fun i hi => ?_⟩, by rw [hc]; exact f232⟩
    · rw [hc, show 2 + (1 + i) = 3 + i from by omega]; exact fs3.out i hi
    · rw [z 35 (by omega) (by omega)]; kernel_rfl
    · rw [z _ (by omega) (by omega), show (refuseM sess f t n).pair.hid = zeros 32 from rfl, zeros_getD]; exact zrow 36 32 (by kernel_rfl) i hi
    · rw [z _ (by omega) (by omega), show (refuseM sess f t n).pair.bnd = zeros 32 from rfl, zeros_getD]; exact zrow 68 32 (by kernel_rfl) i hi
    · rw [z 100 (by omega) (by omega)]; kernel_rfl
    · rw [z 101 (by omega) (by omega)]; kernel_rfl
    · rw [z _ (by omega) (by omega), show (refuseM sess f t n).bind_ = zeros 32 from rfl, zeros_getD]; exact zrow 102 32 (by kernel_rfl) i hi
    · rw [z _ (by omega) (by omega), show (refuseM sess f t n).share = zeros 32 from rfl, zeros_getD]; exact zrow 134 32 (by kernel_rfl) i hi
    · rw [z _ (by omega) (by omega), show (refuseM sess f t n).sig = zeros 64 from rfl, zeros_getD]; exact zrow 166 64 (by kernel_rfl) i hi
  replace hM := Lib.hid hM
  clear hRow hDz
  exact ⟨_, results_cell2 rfl _ _ ⟨w.heap.size, 0, none⟩ ⟨w.heap.size + 1, 0, none⟩ (.agg CS) .nilIface rfl rfl hL hL2, CS, rfl, hM.out, hBz⟩
end Go.Proofs.YtmnmmabhmedioaaDoor
