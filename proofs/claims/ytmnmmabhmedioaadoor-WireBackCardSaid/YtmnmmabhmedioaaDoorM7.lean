/- Wire: a frame that is cut by one byte. -/
import Derived.Test.YtmnmmabhmedioaaDoorM6
import Derived.Deep.Slices
import Derived.Deep.Fields
import Derived.ChangeSame
import Derived.SizedLaws
import Derived.ChangeArms
import Derived.OpenShut
namespace Go.Proofs.YtmnmmabhmedioaaDoor
open Go.RowKit
set_option linter.unusedVariables false
set_option linter.unusedSimpArgs false
set_option maxRecDepth 100000

def kFrame : List UInt8 := [102, 114, 97, 109, 101]

set_option maxHeartbeats 8000000 in
theorem decode_cut (b o c : Nat) (body : List UInt8) (w : World) (hl : body.length = 36) (hc : 50 ≤ c)
    (hb : Bs w (some ⟨b, o, none⟩) ((frameL 5 body).take 49)) :
    Calls Tryd.prog 11 #[.slice (some ⟨b, o, none⟩) 49 c] w fun e w' => ∃ q, e = .returned (.tuple #[.agg Tryd.zeroCells36, errOf q]) ∧ FaultAt w' q ⟨kFrame, 49, 3⟩ ∧ Below w.heap.size w w' := by
  replace hb := Lib.hid hb
  go_enter_defers Tryd.func11, Tryd.ntmps11
  go_upto_region 2 with fail
  have hZ : ((w.alloc (.cells Tryd.zeroCells36 36)).alloc (.cells #[.nilIface] 38)).heap[w.heap.size]? = some (.cells Tryd.zeroCells36 36 (0, 0)) := by
    rw [heap_alloc?, if_neg (by simp)]; exact heap_alloc_new w _
  have hE : ((w.alloc (.cells Tryd.zeroCells36 36)).alloc (.cells #[.nilIface] 38)).heap[w.heap.size + 1]? = some (.cells #[.nilIface] 38 (0, 0)) := by
    rw [heap_alloc?, if_pos (by simp)]
  have hB : Below w.heap.size w ((w.alloc (.cells Tryd.zeroCells36 36)).alloc (.cells #[.nilIface] 38)) := later (boxed _ _) (boxed _ _)
  have hsz : ((w.alloc (.cells Tryd.zeroCells36 36)).alloc (.cells #[.nilIface] 38)).heap.size = w.heap.size + 2 := by simp
  generalize (w.alloc (.cells Tryd.zeroCells36 36)).alloc (.cells #[.nilIface] 38) = w1 at hZ hE hB hsz ⊢
  have hb1 := hb.out.on hB
  replace hZ := Lib.hid hZ
  replace hE := Lib.hid hE
  go_wp2_with fail
  refine (peek50 b o c _ w1 hl 3 (by omega) hc hb1).mono ?_
  rintro e w2 ⟨rfl, md, hw2⟩
  have hB2 : Below w.heap.size w w2 := by rw [hw2]; exact below_drewN hB md
  have hs2 : w2.heap.size = w.heap.size + 2 := by rw [hw2]; exact hsz
  have hZ2 : w2.heap[w.heap.size]? = some (.cells Tryd.zeroCells36 36 (0, 0)) := by rw [hw2]; exact hZ.out
  have hE2 : w2.heap[w.heap.size + 1]? = some (.cells #[.nilIface] 38 (0, 0)) := by rw [hw2]; exact hE.out
  clear hw2 hZ hE hB hsz hb1 hb
  replace hZ2 := Lib.hid hZ2
  replace hE2 := Lib.hid hE2
  replace hB2 := Lib.hid hB2
  go_wp2_with fail
  refine (need_false kFrame 49 3 _).mono ?_
  rintro e w3 ⟨q, rfl, hq, hF, hB3⟩
  have hE3 := heap_on hB3 hE2.out
  have hZ3 := heap_on hB3 hZ2.out
  have hB33 := later' hB2.out hB3
  have ce : w3.cell? ⟨w.heap.size + 1, 0, none⟩ = some .nilIface := cell_of hE3 rfl
  have cf : w3.frozen? ⟨w.heap.size + 1, 0, none⟩ = false := free_of hE3
  have hq2 : w.heap.size + 2 ≤ q := by omega
  clear hZ2 hE2 hB2 hB3 hq
  replace hE3 := Lib.hid hE3
  replace hZ3 := Lib.hid hZ3
  replace hF := Lib.hid hF
  go_wp2_with fail
  have hEf := cell_of (heap_set (o := 0) hE3.out (errOf q)) (off := 0) rfl
  have hKf : Keep (fun k => k = w.heap.size + 1) w3 (w3.setCell ⟨w.heap.size + 1, 0, none⟩ (errOf q)) := Keep.set (fun k => k = w.heap.size + 1) _ _ _ rfl
  have hZf := hKf.heap (show ¬ w.heap.size = w.heap.size + 1 by omega) hZ3.out
  have hFf : FaultAt (w3.setCell ⟨w.heap.size + 1, 0, none⟩ (errOf q)) q ⟨kFrame, 49, 3⟩ := hKf.heap (show ¬ q = w.heap.size + 1 by omega) hF.out
  have hBf := below_keep hB33 hKf (fun i e => by omega) hB33.size
  have hif : (Tryd.prog.info? 36).map (·.size) = some Tryd.zeroCells36.size := by kernel_rfl
  have hL := run_loadVar_row (P := Tryd.prog) _ w.heap.size 36 36 _ (0, 0) _ hZf Tryd.underlying36 rfl hif
  have hL2 : (loadVar 38 ⟨w.heap.size + 1, 0, none⟩).run Tryd.prog (w3.setCell ⟨w.heap.size + 1, 0, none⟩ (errOf q)) = .ok (errOf q) (w3.setCell ⟨w.heap.size + 1, 0, none⟩ (errOf q)) := by simp [go_sem, hEf]
  refine leaves_cons (f := 36) (args := #[.pointer (some ⟨w.heap.size + 1, 0, none⟩)]) (by simp) (by simp [go_sem]) ?_
  refine (caught_panicking ⟨w.heap.size + 1, 0, none⟩ q .nilIface [] _ ce cf).mono ?_
  rintro e u' w'' ⟨rfl, rfl, rfl⟩
  exact ⟨_, results_cell2 rfl _ _ ⟨w.heap.size, 0, none⟩ ⟨w.heap.size + 1, 0, none⟩ (.agg Tryd.zeroCells36) (errOf q) rfl rfl hL hL2, q, rfl, hFf, hBf⟩
end Go.Proofs.YtmnmmabhmedioaaDoor
/- Wire: SameMessage of one message (no list, no text). -/
namespace Go.Proofs.YtmnmmabhmedioaaDoor
open Go.RowKit
set_option linter.unusedVariables false
set_option linter.unusedSimpArgs false
set_option maxRecDepth 100000

def arrB (l : List UInt8) : Array Value := (l.map B8).toArray
def pairA (p : Pair) : Array Value := #[.int .i64 p.id] ++ arrB p.hid ++ arrB p.bnd
theorem eqlB (t : TypeId) (n : Nat) (ht : Tryd.prog.underlying t = some (.array n 5)) (l : List UInt8) (hl : l.length = n) (w : World) : (binOp .eql t (.agg (arrB l)) (.agg (arrB l))).run Tryd.prog w = .ok (.bool true) w := by
  have h := run_eql_bytes (P := Tryd.prog) w t 5 n ht Tryd.underlying5 size5 l l hl hl
  rw [show (l == l) = true from by simp] at h
  exact h
theorem fields29 : (Tryd.prog.fieldsOf 29).toList.map (fun f => (f.name, f.type, f.offset)) = [("ID", 3, 0), ("Hiding", 27, 1), ("Binding", 27, 33)] := by kernel_rfl
theorem eqArr (d : Nat) (t : TypeId) (n : Nat) (ht : Tryd.prog.underlying t = some (.array n 5)) (l : List UInt8) (hl : l.length = n) (w : World) : (Op.equalIn (d + 2) t (.agg (arrB l)) (.agg (arrB l))).run Tryd.prog w = .ok true w := by
  have h := run_equalIn_bytes (P := Tryd.prog) w d t 5 n ht Tryd.underlying5 size5 l l hl hl
  rw [show (l == l) = true from by simp] at h
  exact h
theorem eqFields_step {P : Program} (d : Nat) (xs : Array Value) (f : Field) (fs : List Field) (w : World) (a : Value) (hn : f.name ≠ "_") (ha : (part f.type xs f.offset).run P w = .ok a w) (he : (Op.equalIn d f.type a a).run P w = .ok true w) :
    (Op.eqFields d xs xs (f :: fs)).run P w = (Op.eqFields d xs xs fs).run P w := by
  rw [Op.eqFields, if_pos hn]
  simp only [Sem.run_bind, ha, he, Result.andThen_ok, Bool.not_true, Bool.false_eq_true, if_false]
theorem eqPair (d : Nat) (p : Pair) (h1 : p.hid.length = 32) (h2 : p.bnd.length = 32) (w : World) : (Op.equalIn (d + 3) 29 (.agg (pairA p)) (.agg (pairA p))).run Tryd.prog w = .ok true w := by
  have hf := fields29
  rw [run_equalIn_struct w (d + 2) 29 _ _ (by kernel_rfl) (by kernel_rfl)]
  generalize (Tryd.prog.fieldsOf 29).toList = fs at hf
  obtain ⟨f0, r0, rfl⟩ : ∃ f0 r0, fs = f0 :: r0 := by cases fs with | nil => simp at hf | cons a l => exact ⟨a, l, rfl⟩
  obtain ⟨f1, r1, rfl⟩ : ∃ f1 r1, r0 = f1 :: r1 := by cases r0 with | nil => simp at hf | cons a l => exact ⟨a, l, rfl⟩
  obtain ⟨f2, r2, rfl⟩ : ∃ f2 r2, r1 = f2 :: r2 := by cases r1 with | nil => simp at hf | cons a l => exact ⟨a, l, rfl⟩
  obtain rfl : r2 = [] := by cases r2 with | nil => rfl | cons a l => simp at hf
  simp only [List.map_cons, List.map_nil, List.cons.injEq, Prod.mk.injEq, and_true] at hf
  obtain ⟨⟨n0, t0, o0⟩, ⟨n1, t1, o1⟩, ⟨n2, t2, o2⟩⟩ := hf
  have x0 : (pairA p)[0]? = some (.int .i64 p.id) := by
    unfold pairA
    rw [Array.append_assoc, Array.getElem?_append_left (by simp)]
    rfl
  have x1 : (pairA p).extract 1 33 = arrB p.hid := by
    apply Array.toList_inj.1
    simp [pairA, arrB, h1]
    exact List.take_of_length_le (by simp [h1])
  have x2 : (pairA p).extract 33 65 = arrB p.bnd := by
    apply Array.toList_inj.1
    simp [pairA, arrB, h1, h2]
    exact List.take_of_length_le (by simp [h2])
  obtain ⟨j, hj, hjs⟩ := Option.map_eq_some_iff.1 (show (Tryd.prog.info? 27).map (·.size) = some 32 by kernel_rfl)
  have p0 : (part 3 (pairA p) 0).run Tryd.prog w = .ok (.int .i64 p.id) w := by
    simp [part, isAgg, run_underlying Tryd.underlying3, x0]
  have p1 : (part 27 (pairA p) 1).run Tryd.prog w = .ok (.agg (arrB p.hid)) w := by
    simp [part, isAgg, run_underlying Tryd.underlying27, sizeOf, typeInfo, hj, hjs, x1]
  have p2 : (part 27 (pairA p) 33).run Tryd.prog w = .ok (.agg (arrB p.bnd)) w := by
    simp [part, isAgg, run_underlying Tryd.underlying27, sizeOf, typeInfo, hj, hjs, x2]
  have e0 := run_equalIn_int (P := Tryd.prog) w (d + 1) 3 .i64 .i64 p.id p.id Tryd.underlying3
  have e1' := eqArr d 27 32 Tryd.underlying27 p.hid h1 w
  have e2' := eqArr d 27 32 Tryd.underlying27 p.bnd h2 w
  clear hj hjs h1 h2
  rw [show (p.id == p.id) = true from by simp] at e0
  have s0 : ("ID" : String) ≠ "_" := by decide
  have s1 : ("Hiding" : String) ≠ "_" := by decide
  have s2 : ("Binding" : String) ≠ "_" := by decide
  refine (eqFields_step (d + 2) (pairA p) f0 [f1, f2] w _ (by rw [n0]; exact s0) (by rw [t0, o0]; exact p0) (by rw [t0]; exact e0)).trans ?_
  refine (eqFields_step (d + 2) (pairA p) f1 [f2] w _ (by rw [n1]; exact s1) (by rw [t1, o1]; exact p1) (by rw [t1]; exact e1')).trans ?_
  exact (eqFields_step (d + 2) (pairA p) f2 [] w _ (by rw [n2]; exact s2) (by rw [t2, o2]; exact p2) (by rw [t2]; exact e2')).trans rfl
theorem eqlP (p : Pair) (h1 : p.hid.length = 32) (h2 : p.bnd.length = 32) (w : World) : (binOp .eql 29 (.agg (pairA p)) (.agg (pairA p))).run Tryd.prog w = .ok (.bool true) w := by
  rw [run_eql_struct, show (10000 : Nat) = 9997 + 3 from rfl, eqPair 9997 p h1 h2 w]
  rfl
end Go.Proofs.YtmnmmabhmedioaaDoor
/- Wire: SameMessage of one message (no list, no text). -/
namespace Go.Proofs.YtmnmmabhmedioaaDoor
open Go.RowKit
set_option linter.unusedVariables false
set_option linter.unusedSimpArgs false
set_option maxRecDepth 100000

theorem sameBytes_nil (w : World) : Calls Tryd.prog 19 #[.slice none 0 0, .slice none 0 0] w fun e w' => e = .returned (.bool true) ∧ w' = w := by
  go_enter Tryd.func19, Tryd.ntmps19
  go_wp2
  refine wp_loop_rounds 1 ?_
  rw [rounds_succ]
  go_wp2
  go_ret
  exact ⟨rfl, rfl⟩
theorem sameCommitments_nil (w : World) : Calls Tryd.prog 48 #[.slice none 0 0, .slice none 0 0] w fun e w' => e = .returned (.bool true) ∧ w' = w := by
  go_enter Tryd.func48, Tryd.ntmps48
  go_wp2
  refine wp_loop_rounds 1 ?_
  rw [rounds_succ]
  go_wp2
  go_ret
  exact ⟨rfl, rfl⟩

/-- The message's rows, as they are read out of a block. -/
def RowAt (w : World) (X o : Nat) (A : Array Value) : Prop := ∀ j v, A[j]? = some v → w.cell? ⟨X, o + j, none⟩ = some v
theorem rowAt_of {w : World} {X : Nat} {cs : Array Value} {T : TypeId} {o n : Nat} {l : List UInt8} (hX : w.heap[X]? = some (.cells cs T (0, 0))) (h : RowC cs o n l) : RowAt w X o (arrB l) := fun j v hv => by
  have hj : j < l.length := by
    rcases Nat.lt_or_ge j l.length with h' | h'
    · exact h'
    · rw [Array.getElem?_eq_none (by simpa [arrB] using h')] at hv; cases hv
  have h2 := h.2 j (by rw [← h.1]; exact hj)
  refine cell_of hX (h2.trans ?_)
  rw [← hv, arrB, List.getElem?_toArray, List.getElem?_map, List.getD_eq_getElem?_getD, List.getElem?_eq_getElem hj]
  rfl
theorem pairAt_of {w : World} {X : Nat} {cs : Array Value} {T : TypeId} {m : Msg} {lv tv : Value} (hX : w.heap[X]? = some (.cells cs T (0, 0))) (h : MsgC cs m lv tv) : RowAt w X 35 (pairA m.pair) := fun j v hv => by
  have l1 := h.hid.1
  have l2 := h.bnd.1
  by_cases e0 : j = 0
  · subst e0
    have : (pairA m.pair)[0]? = some (.int .i64 m.pair.id) := by
      unfold pairA
      rw [Array.append_assoc, Array.getElem?_append_left (by simp)]
      rfl
    rw [this] at hv
    cases hv
    exact cell_of hX h.pid
  · have s1 : (#[Value.int .i64 m.pair.id] ++ arrB m.pair.hid).size = 33 := by simp [arrB, l1]
    unfold pairA at hv
    by_cases e1 : j < 33
    · rw [Array.getElem?_append_left (by omega), Array.getElem?_append_right (by simp; omega)] at hv
      have := rowAt_of hX h.hid (j - 1) v (by simpa using hv)
      rw [show 36 + (j - 1) = 35 + j from by omega] at this
      exact this
    · rw [Array.getElem?_append_right (by omega), s1] at hv
      have := rowAt_of hX h.bnd (j - 33) v hv
      rw [show 68 + (j - 33) = 35 + j from by omega] at this
      exact this

theorem run_loadAt_row {w : World} {X o n : Nat} {A : Array Value} (h : RowAt w X o A) (hn : A.size = n) : (loadCellsFrom ⟨X, o, none⟩ 0 n #[]).run Tryd.prog w = .ok A w := by
  subst hn
  have := run_loadCells_list (P := Tryd.prog) w ⟨X, o, none⟩ A.toList (fun j v hv => by
    rw [Go.WideShapes.add_plain]
    exact h j v (by simpa using hv))
  simpa [loadCells] using this
theorem run_loadT {w : World} {X o : Nat} {A : Array Value} {ty : TypeId} {d : TypeDesc} (h : RowAt w X o A) (hu : Tryd.prog.underlying ty = some d) (hd : d.isRow = true) (hi : (Tryd.prog.info? ty).map (·.size) = some A.size) : (Instr.loadAt ty (.pointer (some ⟨X, o, none⟩))).run Tryd.prog w = .ok (.agg A) w := by
  have h' := run_loadAt_mid (P := Tryd.prog) w X o ty A.toList d (fun j v hv => h j v (by simpa using hv)) hu hd (by simpa using hi)
  simpa using h'
theorem wpList_loadG {P : Program} (w : World) {ops : Array Oper} {rest : List Oper} {op : Oper} {a : Act} {Q : Exit → Act → World → Prop} (ty : TypeId) (x : Operand) (ho : op.op = .load ty x)
    (b o : Nat) (hx : a.eval x = .pointer (some ⟨b, o, none⟩)) (hw : Region.wanted op (yielded ops a.tmps) = true) (cs : Array Value) (hc : RowAt w b o cs) (d : TypeDesc)
    (hu : P.underlying ty = some d) (hd : d.isRow = true) (hi : (P.info? ty).map (·.size) = some cs.size)
    (h : wpList P ops Q rest (a.put op.dst (.agg cs)) w) : wpList P ops Q (op :: rest) a w := by
  refine wpList_step fun K hK => ?_
  rw [if_pos hw]
  have h' := wp_load_mid (P := P) (w := w) (a := a) (K := K) (Q := Q) (op := op) ty x ho b o hx cs.toList d (fun j v hv => hc j v (by simpa using hv)) hu hd (by simpa using hi)
  simp only [Array.toArray_toList] at h'
  exact h' (hK _ _ h)

set_option maxHeartbeats 16000000 in
theorem sameMessage_true (c1 c2 : Array Value) (m : Msg) (h1 : MsgC c1 m (.slice none 0 0) (.slice none 0 0)) (h2 : MsgC c2 m (.slice none 0 0) (.slice none 0 0)) (w : World) :
    Calls Tryd.prog 13 #[.agg c1, .agg c2] w fun e w' => e = .returned (.bool true) ∧ Below w.heap.size w w' := by
  have hX : ((w.alloc (.cells c1 36)).alloc (.cells c2 36)).heap[w.heap.size]? = some (.cells c1 36 (0, 0)) := by
    rw [heap_alloc?, if_neg (by simp)]; exact heap_alloc_new w _
  have hY : ((w.alloc (.cells c1 36)).alloc (.cells c2 36)).heap[w.heap.size + 1]? = some (.cells c2 36 (0, 0)) := by
    rw [heap_alloc?, if_pos (by simp)]
  have hB : Below w.heap.size w ((w.alloc (.cells c1 36)).alloc (.cells c2 36)) := later (boxed _ _) (boxed _ _)
  have q1 := eqlB 26 32 Tryd.underlying26 m.session h1.session.1
  have q2 := eqlP m.pair h1.hid.1 h1.bnd.1
  have q3 := eqlB 26 32 Tryd.underlying26 m.bind_ h1.bind_.1
  have q4 := eqlB 31 32 Tryd.underlying31 m.share h1.share.1
  have q5 := eqlB 33 64 Tryd.underlying33 m.sig h1.sig.1
  have i1 : (Tryd.prog.info? 26).map (·.size) = some (arrB m.session).size := by rw [show (arrB m.session).size = 32 from by simp [arrB, h1.session.1]]; kernel_rfl
  have i2 : (Tryd.prog.info? 29).map (·.size) = some (pairA m.pair).size := by rw [show (pairA m.pair).size = 65 from by simp [pairA, arrB, h1.hid.1, h1.bnd.1]]; kernel_rfl
  have i3 : (Tryd.prog.info? 26).map (·.size) = some (arrB m.bind_).size := by rw [show (arrB m.bind_).size = 32 from by simp [arrB, h1.bind_.1]]; kernel_rfl
  have i4 : (Tryd.prog.info? 31).map (·.size) = some (arrB m.share).size := by rw [show (arrB m.share).size = 32 from by simp [arrB, h1.share.1]]; kernel_rfl
  have i5 : (Tryd.prog.info? 33).map (·.size) = some (arrB m.sig).size := by rw [show (arrB m.sig).size = 64 from by simp [arrB, h1.sig.1]]; kernel_rfl
  have x1 := rowAt_of hX h1.session
  have x2 := pairAt_of hX h1
  have x3 := rowAt_of hX h1.bind_
  have x4 := rowAt_of hX h1.share
  have x5 := rowAt_of hX h1.sig
  have y1 := rowAt_of hY h2.session
  have y2 := pairAt_of hY h2
  have y3 := rowAt_of hY h2.bind_
  have y4 := rowAt_of hY h2.share
  have y5 := rowAt_of hY h2.sig
  have k0 := cell_of hX h1.kind
  have k33 := cell_of hX h1.from_
  have k34 := cell_of hX h1.to_
  have k100 := cell_of hX h1.list
  have k101 := cell_of hX h1.text
  have k230 := cell_of hX h1.code
  have j0 := cell_of hY h2.kind
  have j33 := cell_of hY h2.from_
  have j34 := cell_of hY h2.to_
  have j100 := cell_of hY h2.list
  have j101 := cell_of hY h2.text
  have j230 := cell_of hY h2.code
  replace x1 := Lib.hid x1
  replace x2 := Lib.hid x2
  replace x3 := Lib.hid x3
  replace x4 := Lib.hid x4
  replace x5 := Lib.hid x5
  replace y1 := Lib.hid y1
  replace y2 := Lib.hid y2
  replace y3 := Lib.hid y3
  replace y4 := Lib.hid y4
  replace y5 := Lib.hid y5
  clear hX hY h1 h2
  go_enter Tryd.func13, Tryd.ntmps13
  go_upto_region 1 with fail
  generalize (w.alloc (.cells c1 36)).alloc (.cells c2 36) = W at *
  go_step
  repeat (first
    | (apply wpList_loadG (hc := x1.out) (hu := Tryd.underlying26) (hi := i1); (case ho => exact rfl); (case hx => exact rfl); (case hd => rfl); (case hw => simp [Region.wanted, yielded]))
    | (apply wpList_loadG (hc := y1.out) (hu := Tryd.underlying26) (hi := i1); (case ho => exact rfl); (case hx => exact rfl); (case hd => rfl); (case hw => simp [Region.wanted, yielded]))
    | (apply wpList_loadG (hc := x2.out) (hu := Tryd.underlying29) (hi := i2); (case ho => exact rfl); (case hx => exact rfl); (case hd => rfl); (case hw => simp [Region.wanted, yielded]))
    | (apply wpList_loadG (hc := y2.out) (hu := Tryd.underlying29) (hi := i2); (case ho => exact rfl); (case hx => exact rfl); (case hd => rfl); (case hw => simp [Region.wanted, yielded]))
    | (apply wpList_loadG (hc := x3.out) (hu := Tryd.underlying26) (hi := i3); (case ho => exact rfl); (case hx => exact rfl); (case hd => rfl); (case hw => simp [Region.wanted, yielded]))
    | (apply wpList_loadG (hc := y3.out) (hu := Tryd.underlying26) (hi := i3); (case ho => exact rfl); (case hx => exact rfl); (case hd => rfl); (case hw => simp [Region.wanted, yielded]))
    | (apply wpList_loadG (hc := x4.out) (hu := Tryd.underlying31) (hi := i4); (case ho => exact rfl); (case hx => exact rfl); (case hd => rfl); (case hw => simp [Region.wanted, yielded]))
    | (apply wpList_loadG (hc := y4.out) (hu := Tryd.underlying31) (hi := i4); (case ho => exact rfl); (case hx => exact rfl); (case hd => rfl); (case hw => simp [Region.wanted, yielded]))
    | (apply wpList_loadG (hc := x5.out) (hu := Tryd.underlying33) (hi := i5); (case ho => exact rfl); (case hx => exact rfl); (case hd => rfl); (case hw => simp [Region.wanted, yielded]))
    | (apply wpList_loadG (hc := y5.out) (hu := Tryd.underlying33) (hi := i5); (case ho => exact rfl); (case hx => exact rfl); (case hd => rfl); (case hw => simp [Region.wanted, yielded]))
    | (refine wpList_step (fun K hK => ?_); go_simp; refine hK _ _ ?_; clear hK)
    | (refine wpList_step (fun K hK => ?_); go_simp; go_at_call 48; refine (sameCommitments_nil _).mono ?_; rintro e w' ⟨rfl, rfl⟩; refine hK _ _ ?_; clear hK)
    | (refine wpList_step (fun K hK => ?_); go_simp; go_at_call 19; refine (sameBytes_nil _).mono ?_; rintro e w' ⟨rfl, rfl⟩; refine hK _ _ ?_; clear hK))
  refine wpList_nil ?_
  go_wp2_with fail
  go_ret
  exact ⟨rfl, hB⟩
end Go.Proofs.YtmnmmabhmedioaaDoor
/- Wire: a message with its list and its text in memory; out of the data that a caller hands in. -/
namespace Go.Proofs.YtmnmmabhmedioaaDoor
open Go.RowKit Go.ChangeShapes Go.WideShapes Go.Deep
set_option linter.unusedVariables false
set_option linter.unusedSimpArgs false

def Pair.zero : Pair := ⟨0, zeros 32, zeros 32⟩
def PairOk (p : Pair) : Prop := p.hid.length = 32 ∧ p.bnd.length = 32
theorem pair0_ok : PairOk Pair.zero := ⟨by simp [Pair.zero, zeros], by simp [Pair.zero, zeros]⟩
/-- Commitments behind a slice's head. -/
def PairsIn (w : World) (A : Option Addr) (ps : List Pair) : Prop := 0 < ps.length → ∃ b o, A = some ⟨b, o, none⟩ ∧ ∀ i, i < ps.length → RowAt w b (o + i * 65) (pairA (ps.getD i Pair.zero))
theorem RowAt.on {w w' : World} {b o : Nat} {A : Array Value} (hb : Below w.heap.size w w') (h : RowAt w b o A) : RowAt w' b o A := fun j v hv => cell_on hb (h j v hv)
theorem PairsIn.on {w w' : World} {A : Option Addr} {ps : List Pair} (hb : Below w.heap.size w w') (h : PairsIn w A ps) : PairsIn w' A ps := fun h0 => by
  obtain ⟨b, o, rfl, hc⟩ := h h0
  exact ⟨b, o, rfl, fun i hi => (hc i hi).on hb⟩
theorem PairsIn.nil (w : World) (A : Option Addr) : PairsIn w A [] := fun h => absurd h (by simp)
theorem pairA_size {p : Pair} (h : PairOk p) : (pairA p).size = 65 := by simp [pairA, arrB, h.1, h.2]

/-- A message with its list and its text. -/
structure MsgIn (w : World) (cs : Array Value) (m : Msg) (LA : Option Addr) (lc : Nat) (TA : Option Addr) (tc : Nat) : Prop where
  cells : MsgC cs m (.slice LA m.list.length lc) (.slice TA m.text.length tc)
  llc : m.list.length ≤ lc
  ltc : m.text.length ≤ tc
  list : PairsIn w LA m.list
  text : Bs w TA m.text
  pok : ∀ i, PairOk (m.list.getD i Pair.zero)
  lsz : m.list.length ≤ 2199023255552
  tsz : m.text.length ≤ 140737488351232
theorem MsgIn.on {w w' : World} {cs : Array Value} {m : Msg} {LA : Option Addr} {lc : Nat} {TA : Option Addr} {tc : Nat} (hb : Below w.heap.size w w') (h : MsgIn w cs m LA lc TA tc) : MsgIn w' cs m LA lc TA tc :=
  ⟨h.cells, h.llc, h.ltc, h.list.on hb, h.text.on hb, h.pok, h.lsz, h.tsz⟩

section
variable {H : Type} {enc : TypeId × Value → H} {P : Program} {w : World} {base : Nat} {spare : Nat → Bool} {held : Bool}
theorem weightsAll_mem {e : TypeId} {n : Nat} : ∀ {l : List (DataW H)} {d : DataW H}, d ∈ l → n ∈ d.weights P e → n ∈ DataW.weightsAll P e l
  | x :: l, d, hd, hn => by
    rw [DataW.weightsAll, List.mem_append]
    rcases List.mem_cons.1 hd with rfl | hd
    · exact .inl hn
    · exact .inr (weightsAll_mem hd hn)
theorem byte_of_wf {z : Int} (h : (Lit.int .u8 z).wf = true) : Value.int .u8 z = B8 (UInt8.ofNat z.toNat) := by
  have hbd : 0 ≤ z ∧ z < 256 := by
    have e1 : IntKind.u8.min = 0 := rfl
    have e2 : IntKind.u8.max = 255 := rfl
    simp [Lit.wf, e1, e2] at h
    omega
  have hnb : nb (UInt8.ofNat z.toNat) = z := by unfold nb; rw [UInt8.toNat_ofNat']; omega
  show _ = Value.int .u8 (nb _)
  rw [hnb]
/-- Bytes that were handed in. -/
theorem bytes_of {fuel : Nat} {t e : TypeId} {v : Value} {y : DataW H × List MemPlace} (ht : P.underlying t = some (.slice e)) (he : P.underlying e = some (.int .u8)) (hc : P.cellsOf e = 1) (hb : P.bytesOf e = 1)
    (h : DataW.trod enc P w base (fun _ => true) held fuel t [v] = some y) (hsz : ∀ n ∈ y.1.weights P t, n ≤ reachBytes) :
    ∃ A c l, v = .slice A l.length c ∧ l.length ≤ c ∧ Bs w A l ∧ l.length ≤ reachBytes := by
  rcases open_ints ht he hc h with ⟨hcs, hx⟩ | ⟨a, len, cap, zs, hcs, _, hl, hm, hz, hx, hcell, hwf⟩
  · simp at hcs
    exact ⟨none, 0, [], hcs, by simp, Bs.nil _ _, by simp⟩
  · simp at hcs hz
    have hw : (lits (H := H) .u8 (zs.take len)).length + (lits (H := H) .u8 (zs.drop len)).length = zs.length := by simp [lits]; omega
    have h1 := hsz (zs.length * 1) (by rw [hx]; simp only [DataW.weights, ht, hb, hw]; exact List.mem_cons_self)
    have hlen : ((zs.take len).map fun z => UInt8.ofNat z.toNat).length = len := by simp; omega
    refine ⟨some a, cap, (zs.take len).map fun z => UInt8.ofNat z.toNat, by rw [hlen]; exact hcs, by rw [hlen]; exact hl, fun h0 => ?_, by rw [hlen]; omega⟩
    rw [hlen] at h0
    obtain ⟨b, off, spot⟩ := a
    obtain rfl : spot = none := by simpa [Addr.add] using World.cell?_spot (hcell 0 (by omega))
    refine ⟨b, off, rfl, fun i hi => ?_⟩
    rw [hlen] at hi
    have hc2 := hcell i (by omega)
    rw [add_plain] at hc2
    rw [hc2]
    have hiz : i < zs.length := by omega
    have hz1 : zs.getD i 0 = zs[i] := by rw [List.getD_eq_getElem?_getD, List.getElem?_eq_getElem hiz]; rfl
    have hz2 : ((zs.take len).map fun z => UInt8.ofNat z.toNat).getD i 0 = UInt8.ofNat (zs[i]).toNat := by
      rw [List.getD_eq_getElem?_getD, List.getElem?_map, List.getElem?_take, if_pos hi, List.getElem?_eq_getElem hiz]; rfl
    rw [hz1, hz2, byte_of_wf (hwf zs[i] (List.getElem_mem hiz))]
/-- An array of bytes that was handed in. -/
theorem row_of {fuel n : Nat} {t e : TypeId} {cs : List Value} {x : DataW H × List MemPlace} (ht : P.underlying t = some (.array n e)) (he : P.underlying e = some (.int .u8)) (hc : P.cellsOf e = 1) (hT : P.cellsOf t = n)
    (h : DataW.trod enc P w base spare held fuel t cs = some x) : ∃ l : List UInt8, l.length = n ∧ cs = l.map B8 := by
  obtain ⟨xs, m, _, _, hlen, hxl, hel⟩ := DataW.trod_array ht h
  rw [hT] at hlen
  rw [hc] at hel
  have one : ∀ i (hi : i < n), ∃ b : UInt8, cs[i]? = some (B8 b) := fun i hi => by
    have h1 := hel i hi
    rw [Nat.mul_one, List.drop_eq_getElem_cons (by omega)] at h1
    have h2 : xs[i]? = some (xs[i]'(by omega)) := List.getElem?_eq_getElem (by omega)
    rw [h2] at h1
    obtain ⟨z, hz, _, hwf⟩ := DataW.trod_int he h1
    have hz : cs[i]'(by omega) = .int .u8 z := by
      have : [cs[i]'(by omega)] = [Value.int .u8 z] := hz
      exact List.cons.inj this |>.1
    exact ⟨_, by rw [List.getElem?_eq_getElem (by omega), hz, byte_of_wf hwf]⟩
  refine ⟨(List.range n).map fun i => if h : i < n then Classical.choose (one i h) else 0, by simp, ?_⟩
  apply List.ext_getElem?
  intro i
  rcases Nat.lt_or_ge i n with hi | hi
  · have h1 := Classical.choose_spec (one i hi)
    rw [h1, List.getElem?_map, List.getElem?_map, List.getElem?_range hi]
    simp [hi]
  · rw [List.getElem?_eq_none (by omega), List.getElem?_eq_none (by simp; omega)]
end
theorem rowC_of {cs : Array Value} {o n : Nat} {l : List UInt8} (hl : l.length = n) (h : (cs.toList.drop o).take n = l.map B8) : RowC cs o n l := by
  refine ⟨hl, fun i hi => ?_⟩
  have h1 := congrArg (fun x => x[i]?) h
  simp only [List.getElem?_take, if_pos hi, List.getElem?_drop, List.getElem?_map, Array.getElem?_toList] at h1
  rw [h1, List.getD_eq_getElem?_getD, List.getElem?_eq_getElem (by omega)]
  rfl
theorem cell_at {cs : Array Value} {o : Nat} {v : Value} (h : (cs.toList.drop o).take 1 = [v]) : cs[o]? = some v := by
  have h1 := congrArg (fun x => x[0]?) h
  simpa [List.getElem?_take, List.getElem?_drop] using h1

section
variable {H : Type} {enc : TypeId × Value → H} {w : World} {base : Nat} {spare : Nat → Bool} {held : Bool}
theorem cellsHash : Tryd.prog.cellsOf 26 = 32 := by kernel_rfl
theorem cellsScalar : Tryd.prog.cellsOf 31 = 32 := by kernel_rfl
theorem cellsElement : Tryd.prog.cellsOf 27 = 32 := by kernel_rfl
theorem cellsSignature : Tryd.prog.cellsOf 33 = 64 := by kernel_rfl
theorem cellsPair : Tryd.prog.cellsOf 29 = 65 := by kernel_rfl
theorem cellsInt : Tryd.prog.cellsOf 3 = 1 := by kernel_rfl
theorem cells5 : Tryd.prog.cellsOf 5 = 1 := by kernel_rfl
theorem bytes5 : Tryd.prog.bytesOf 5 = 1 := by kernel_rfl
theorem bytesPair : Tryd.prog.bytesOf 29 = 72 := by kernel_rfl
/-- A commitment that was handed in. -/
theorem pair_of {fuel : Nat} {cs : List Value} {x : DataW H × List MemPlace} (h : DataW.trod enc Tryd.prog w base spare held fuel 29 cs = some x) : ∃ p : Pair, cs = (pairA p).toList ∧ PairOk p := by
  obtain ⟨xs, m, _, _, hlen, hxl, hel⟩ := DataW.trod_struct Tryd.underlying29 h
  have hxl : xs.length = 3 := hxl
  rw [cellsPair] at hlen
  have h0 := hel 0 _ rfl
  have h1 := hel 1 _ rfl
  have h2 := hel 2 _ rfl
  rw [List.getElem?_eq_getElem (by omega)] at h0 h1 h2
  obtain ⟨z, hz, _, _⟩ := DataW.trod_int Tryd.underlying3 h0
  obtain ⟨l1, e1, g1⟩ := row_of Tryd.underlying27 Tryd.underlying5 cells5 cellsElement h1
  obtain ⟨l2, e2, g2⟩ := row_of Tryd.underlying27 Tryd.underlying5 cells5 cellsElement h2
  replace hz : (cs.drop 0).take (Tryd.prog.cellsOf 3) = [.int .i64 z] := hz
  replace g1 : (cs.drop 1).take (Tryd.prog.cellsOf 27) = l1.map B8 := g1
  replace g2 : (cs.drop 33).take (Tryd.prog.cellsOf 27) = l2.map B8 := g2
  rw [cellsInt] at hz
  rw [cellsElement] at g1 g2
  refine ⟨⟨z, l1, l2⟩, ?_, e1, e2⟩
  have e : cs = (cs.drop 0).take 1 ++ ((cs.drop 1).take 32 ++ (cs.drop 33).take 32) := by
    have k : (cs.drop 33).take 32 = cs.drop 33 := List.take_of_length_le (by simp; omega)
    rw [k, show (33 : Nat) = 1 + 32 from rfl, ← List.drop_drop, List.take_append_drop]
    exact (List.take_append_drop 1 cs).symm
  rw [e, hz, g1, g2]
  simp [pairA, arrB]
theorem cellsSl : Tryd.prog.cellsOf 30 = 1 := by kernel_rfl
theorem cellsSb : Tryd.prog.cellsOf 22 = 1 := by kernel_rfl
/-- Commitments that were handed in. -/
theorem pairs_of {fuel : Nat} {v : Value} {y : DataW H × List MemPlace} (h : DataW.trod enc Tryd.prog w base (fun _ => true) held fuel 30 [v] = some y) (hsz : ∀ n ∈ y.1.weights Tryd.prog 30, n ≤ reachBytes) :
    ∃ A c ps, v = .slice A ps.length c ∧ ps.length ≤ c ∧ PairsIn w A ps ∧ (∀ i, PairOk (ps.getD i Pair.zero)) ∧ ps.length ≤ 2199023255552 := by
  have hr : reachBytes = 140737488351232 := rfl
  rcases open_slice Tryd.underlying30 h with ⟨hcs, _⟩ | ⟨a, len, cap, m, n, D, Pl, hcs, _, hl, hm, hmm, hx, hi⟩
  · simp at hcs
    exact ⟨none, 0, [], hcs, by simp, PairsIn.nil _ _, fun i => by simp; exact pair0_ok, by simp⟩
  · simp at hcs
    simp at hmm
    subst hmm
    have hw : len * 72 ≤ reachBytes := by
      have := hsz ((((List.range len).map D).length + ((List.range (m - len)).map fun j => D (len + j)).length) * 72) (by
        rw [hx]; simp only [DataW.weights, Tryd.underlying30, bytesPair]; exact List.mem_cons_self)
      simp at this
      omega
    rcases Nat.eq_zero_or_pos len with h0 | h0
    · subst h0
      exact ⟨some a, m, [], hcs, by simp, PairsIn.nil _ _, fun i => by simp; exact pair0_ok, by simp⟩
    rw [cellsPair] at hi
    have one : ∀ i, i < len → ∃ p : Pair, PairOk p ∧ ∀ j v, (pairA p)[j]? = some v → w.cell? (a.add (i * 65 + j)) = some v := fun i hin => by
      obtain ⟨cs', hc, ht'⟩ := hi i (by omega)
      obtain ⟨p, rfl, hp⟩ := pair_of ht'
      obtain ⟨_, hcl, hat⟩ := World.cells?_some hc
      refine ⟨p, hp, fun j v hv => ?_⟩
      have hj : j < 65 := by
        rcases Nat.lt_or_ge j 65 with h' | h'
        · exact h'
        · rw [Array.getElem?_eq_none (by rw [pairA_size hp]; exact h')] at hv; cases hv
      rw [← Go.Deep.add_add, hat j hj, ← hv, Array.getElem?_toList]
    obtain ⟨b, off, spot⟩ := a
    have hspot : spot = none := by
      obtain ⟨p, hp, hg⟩ := one 0 h0
      have h65 := pairA_size hp
      have := hg 0 _ (Array.getElem?_eq_getElem (by omega))
      simpa [Addr.add] using World.cell?_spot this
    subst hspot
    let f : Nat → Pair := fun i => if h : i < len then Classical.choose (one i h) else Pair.zero
    have hfl : ((List.range len).map f).length = len := by simp
    have hget : ∀ i, i < len → ((List.range len).map f).getD i Pair.zero = f i := fun i h => by
      rw [List.getD_eq_getElem?_getD, List.getElem?_map, List.getElem?_range h]; rfl
    refine ⟨some ⟨b, off, none⟩, m, (List.range len).map f, by rw [hfl]; exact hcs, by rw [hfl]; exact hl, fun _ => ⟨b, off, rfl, fun i h => ?_⟩, fun i => ?_, by rw [hfl]; omega⟩
    · rw [hfl] at h
      rw [hget i h]
      have h2 := (Classical.choose_spec (one i h)).2
      intro j v hv
      have h3 := h2 j v (by simpa [f, h] using hv)
      rw [add_plain, ← Nat.add_assoc] at h3
      exact h3
    · by_cases h : i < len
      · rw [hget i h]
        have := (Classical.choose_spec (one i h)).1
        simpa [f, h] using this
      · rw [List.getD_eq_getElem?_getD, List.getElem?_eq_none (by rw [hfl]; omega)]
        exact pair0_ok
set_option maxRecDepth 100000 in
/-- A message that was handed in. -/
theorem msg_of {v : Value} {d : DataW H} {p : List MemPlace} {r : Reach} {base' : Nat} (hv : Value.okWide Tryd.prog w r base' 36 v)
    (h : DataW.Trod enc Tryd.prog w base (fun _ => true) held 36 v d p) (hsz : ∀ n ∈ d.weights Tryd.prog 36, n ≤ reachBytes) :
    ∃ cs m LA lc TA tc, v = .agg cs ∧ MsgIn w cs m LA lc TA tc := by
  have hr : reachBytes = 140737488351232 := rfl
  obtain ⟨cs, rfl, hcs⟩ := okWide_struct Tryd.underlying36 hv
  have hcs : cs.size = 231 := hcs.trans (by kernel_rfl)
  obtain ⟨fuel, hf⟩ := h
  obtain ⟨xs, k, _, hx, hlen, hxl, hel⟩ := DataW.trod_struct Tryd.underlying36 hf
  have hxl : xs.length = 11 := hxl
  have hd : d = .agg (xs.map (·.1)) := (Prod.mk.inj hx).1
  have h0 := hel 0 _ rfl
  have h1 := hel 1 _ rfl
  have h2 := hel 2 _ rfl
  have h3 := hel 3 _ rfl
  have h4 := hel 4 _ rfl
  have h5 := hel 5 _ rfl
  have h6 := hel 6 _ rfl
  have h7 := hel 7 _ rfl
  have h8 := hel 8 _ rfl
  have h9 := hel 9 _ rfl
  have h10 := hel 10 _ rfl
  rw [List.getElem?_eq_getElem (by omega)] at h0 h1 h2 h3 h4 h7 h8 h9 h10
  have s5 : xs[5]? = some (xs[5]'(by omega)) := List.getElem?_eq_getElem (by omega)
  have s6 : xs[6]? = some (xs[6]'(by omega)) := List.getElem?_eq_getElem (by omega)
  rw [s5] at h5
  rw [s6] at h6
  generalize xs[5]'(by omega) = y5 at h5 s5
  generalize xs[6]'(by omega) = y6 at h6 s6
  simp only [Value.cells] at h0 h1 h2 h3 h4 h5 h6 h7 h8 h9 h10
  obtain ⟨z0, g0, _, _⟩ := DataW.trod_int Tryd.underlying24 h0
  obtain ⟨l1, e1, g1⟩ := row_of Tryd.underlying26 Tryd.underlying5 cells5 cellsHash h1
  obtain ⟨z2, g2, _, _⟩ := DataW.trod_int Tryd.underlying3 h2
  obtain ⟨z3, g3, _, _⟩ := DataW.trod_int Tryd.underlying3 h3
  obtain ⟨p4, g4, o4⟩ := pair_of h4
  obtain ⟨l7, e7, g7⟩ := row_of Tryd.underlying26 Tryd.underlying5 cells5 cellsHash h7
  obtain ⟨l8, e8, g8⟩ := row_of Tryd.underlying31 Tryd.underlying5 cells5 cellsScalar h8
  obtain ⟨l9, e9, g9⟩ := row_of Tryd.underlying33 Tryd.underlying5 cells5 cellsSignature h9
  obtain ⟨z10, g10, _, _⟩ := DataW.trod_int Tryd.underlying34 h10
  replace g0 : (cs.toList.drop 0).take 1 = [.int .i64 z0] := g0
  replace g1 : (cs.toList.drop 1).take (Tryd.prog.cellsOf 26) = l1.map B8 := g1
  replace g2 : (cs.toList.drop 33).take (Tryd.prog.cellsOf 3) = [.int .i64 z2] := g2
  replace g3 : (cs.toList.drop 34).take (Tryd.prog.cellsOf 3) = [.int .i64 z3] := g3
  replace g4 : (cs.toList.drop 35).take (Tryd.prog.cellsOf 29) = (pairA p4).toList := g4
  replace g7 : (cs.toList.drop 102).take (Tryd.prog.cellsOf 26) = l7.map B8 := g7
  replace g8 : (cs.toList.drop 134).take (Tryd.prog.cellsOf 31) = l8.map B8 := g8
  replace g9 : (cs.toList.drop 166).take (Tryd.prog.cellsOf 33) = l9.map B8 := g9
  replace g10 : (cs.toList.drop 230).take 1 = [.int .i64 z10] := g10
  have c100 : (cs.toList.drop 100).take 1 = [cs[100]'(by omega)] := by
    rw [List.drop_eq_getElem_cons (by simp; omega)]
    simp
  have c101 : (cs.toList.drop 101).take 1 = [cs[101]'(by omega)] := by
    rw [List.drop_eq_getElem_cons (by simp; omega)]
    simp
  have hall : ∀ j t (y : DataW H × List MemPlace), ([24, 26, 3, 3, 29, 30, 22, 26, 31, 33, 34] : List TypeId)[j]? = some t → xs[j]? = some y → ∀ q ∈ y.1.weights Tryd.prog t, q ≤ reachBytes := fun j t y hj hy q hq => hsz q (by
    rw [hd]
    simp only [DataW.weights, Tryd.underlying36]
    exact DataW.weights_mem_each (j := j) (t := t) (d := y.1) hj (by rw [List.getElem?_map, hy]; rfl) q hq)
  replace h5 : DataW.trod enc Tryd.prog w base (fun _ => true) held k 30 ((cs.toList.drop 100).take (Tryd.prog.cellsOf 30)) = some y5 := h5
  replace h6 : DataW.trod enc Tryd.prog w base (fun _ => true) held k 22 ((cs.toList.drop 101).take (Tryd.prog.cellsOf 22)) = some y6 := h6
  rw [cellsSl, c100] at h5
  rw [cellsSb, c101] at h6
  obtain ⟨LA, lc, ps, e5, q5, i5, o5, s5'⟩ := pairs_of h5 (hall 5 _ _ rfl s5)
  obtain ⟨TA, tc, tx, e6, q6, i6, s6'⟩ := bytes_of Tryd.underlying22 Tryd.underlying5 cells5 bytes5 h6 (hall 6 _ _ rfl s6)
  rw [cellsHash] at g1 g7
  rw [cellsInt] at g2 g3
  rw [cellsPair] at g4
  rw [cellsScalar] at g8
  rw [cellsSignature] at g9
  have gp : ∀ j v, (pairA p4)[j]? = some v → cs[35 + j]? = some v := fun j v hv => by
    have hj : j < 65 := by
      rcases Nat.lt_or_ge j 65 with h' | h'
      · exact h'
      · rw [Array.getElem?_eq_none (by rw [pairA_size o4]; exact h')] at hv; cases hv
    have h1 := congrArg (fun x => x[j]?) g4
    simp only [List.getElem?_take, if_pos hj, List.getElem?_drop, Array.getElem?_toList] at h1
    rw [h1, hv]
  refine ⟨cs, ⟨z0, l1, z2, z3, p4, ps, tx, l7, l8, l9, z10⟩, LA, lc, TA, tc, rfl, ⟨⟨hcs, cell_at g0, rowC_of e1 g1, cell_at g2, cell_at g3, ?_, ⟨o4.1, fun i hi => ?_⟩, ⟨o4.2, fun i hi => ?_⟩, ?_, ?_, rowC_of e7 g7, rowC_of e8 g8, rowC_of e9 g9, cell_at g10⟩, q5, q6, i5, i6, o5, s5', s6'⟩⟩
  · exact gp 0 _ (by unfold pairA; rw [Array.append_assoc, Array.getElem?_append_left (by simp)]; rfl)
  · have h1 := gp (1 + i) (B8 (p4.hid.getD i 0)) (by
      unfold pairA
      rw [Array.append_assoc, Array.getElem?_append_right (by simp), Array.getElem?_append_left (by simp [arrB, o4.1]; omega)]
      simp only [List.size_toArray, List.length_cons, List.length_nil]
      rw [show 1 + i - (0 + 1) = i from by omega, arrB, List.getElem?_toArray, List.getElem?_map, List.getD_eq_getElem?_getD, List.getElem?_eq_getElem (by rw [o4.1]; exact hi)]
      rfl)
    rw [show 36 + i = 35 + (1 + i) from by omega]
    exact h1
  · have h1 := gp (33 + i) (B8 (p4.bnd.getD i 0)) (by
      unfold pairA
      rw [Array.getElem?_append_right (by simp [arrB, o4.1])]
      simp only [Array.size_append, List.size_toArray, List.length_cons, List.length_nil, arrB, List.length_map, o4.1]
      rw [show 33 + i - (0 + 1 + 32) = i from by omega, List.getElem?_toArray, List.getElem?_map, List.getD_eq_getElem?_getD, List.getElem?_eq_getElem (by rw [o4.2]; exact hi)]
      rfl)
    rw [show 68 + i = 35 + (33 + i) from by omega]
    exact h1
  · rw [← e5]; exact Array.getElem?_eq_getElem (by omega)
  · rw [← e6]; exact Array.getElem?_eq_getElem (by omega)
end
end Go.Proofs.YtmnmmabhmedioaaDoor
/- Wire: what a message's fault and its body are, in plain Lean. -/
namespace Go.Proofs.YtmnmmabhmedioaaDoor
open Go.RowKit
set_option linter.unusedVariables false
set_option linter.unusedSimpArgs false

def kKind : List UInt8 := [107, 105, 110, 100]
def kFrom : List UInt8 := [102, 114, 111, 109]
def kTo : List UInt8 := [116, 111]
def kPair : List UInt8 := [112, 97, 105, 114]
def kList : List UInt8 := [108, 105, 115, 116]
def kText : List UInt8 := [116, 101, 120, 116]
def kCode : List UInt8 := [99, 111, 100, 101]
def kSum : List UInt8 := [115, 117, 109]
def kTail : List UInt8 := [116, 97, 105, 108]

def isId (n : Int) : Bool := decide (1 ≤ n) && decide (n ≤ 255)
theorem isId_true {n : Int} : isId n = true ↔ 1 ≤ n ∧ n ≤ 255 := by simp [isId]
theorem isId_false {n : Int} : isId n = false ↔ ¬ (1 ≤ n ∧ n ≤ 255) := by
  rw [← isId_true]
  simp
def pairL (p : Pair) : List UInt8 := u8 p.id :: (p.hid ++ p.bnd)
theorem pairL_len {p : Pair} (h : PairOk p) : (pairL p).length = 65 := by simp [pairL, h.1, h.2]
def pairsL (ps : List Pair) : List UInt8 := ps.flatMap pairL
/-- The first commitment of no identifier. -/
def listBad : Nat → List Pair → Option Nat
  | _, [] => none
  | i, p :: r => if isId p.id then listBad (i + 1) r else some i
/-- A message's first fault. -/
def faultM (m : Msg) : Option FD :=
  if ¬ (1 ≤ m.kind ∧ m.kind ≤ 6) then some ⟨kKind, 0, 152⟩
  else if ¬ (0 ≤ m.from_ ∧ m.from_ ≤ 255) then some ⟨kFrom, 0, 4⟩
  else if ¬ (0 ≤ m.to_ ∧ m.to_ ≤ 255) then some ⟨kTo, 0, 4⟩
  else if m.kind = 2 ∨ m.kind = 4 then (if isId m.pair.id then none else some ⟨kPair, 0, 4⟩)
  else if m.kind = 3 then
    (if 255 < m.list.length then some ⟨kList, 0, 8⟩ else match listBad 0 m.list with
      | some i => some ⟨kList, i, 4⟩
      | none => if 1048575 < m.text.length then some ⟨kText, 0, 10⟩ else none)
  else if m.kind = 5 then (if 1 ≤ m.code ∧ m.code ≤ 65535 then none else some ⟨kCode, 0, 1⟩)
  else none
/-- A message's body. -/
def restM (m : Msg) : List UInt8 :=
  if m.kind = 2 then pairL m.pair
  else if m.kind = 3 then [UInt8.ofNat m.list.length] ++ pairsL m.list ++ four m.text.length ++ m.text
  else if m.kind = 4 then pairL m.pair ++ m.bind_ ++ m.share
  else if m.kind = 5 then two m.code.toNat
  else if m.kind = 6 then m.sig
  else []
def bodyM (m : Msg) : List UInt8 := m.session ++ [u8 m.from_, u8 m.to_] ++ restM m
theorem listBad_lt : ∀ (ps : List Pair) (i k : Nat), listBad i ps = some k → i ≤ k ∧ k < i + ps.length ∧ isId (ps.getD (k - i) Pair.zero).id = false ∧ ∀ j, j < k - i → isId (ps.getD j Pair.zero).id = true
  | [], i, k, h => by simp [listBad] at h
  | p :: r, i, k, h => by
    unfold listBad at h
    by_cases hp : isId p.id = true
    · rw [if_pos hp] at h
      obtain ⟨h1, h2, h3, h4⟩ := listBad_lt r (i + 1) k h
      refine ⟨by omega, by simp; omega, ?_, fun j hj => ?_⟩
      · obtain ⟨q, hq⟩ : ∃ q, k - i = q + 1 := ⟨k - (i + 1), by omega⟩
        rw [hq]
        rw [show k - (i + 1) = q from by omega] at h3
        simpa using h3
      · cases j with
        | zero => simpa using hp
        | succ j => simpa using h4 j (by omega)
    · rw [if_neg hp] at h
      cases h
      refine ⟨Nat.le_refl _, by simp, ?_, fun j hj => by omega⟩
      simpa using hp
theorem listBad_none : ∀ (ps : List Pair) (i : Nat), listBad i ps = none → ∀ j, j < ps.length → isId (ps.getD j Pair.zero).id = true
  | [], i, h, j, hj => by simp at hj
  | p :: r, i, h, j, hj => by
    unfold listBad at h
    by_cases hp : isId p.id = true
    · rw [if_pos hp] at h
      cases j with
      | zero => simpa using hp
      | succ j => simpa using listBad_none r (i + 1) h j (by simpa using hj)
    · rw [if_neg hp] at h
      cases h
theorem pairsL_take_succ {ps : List Pair} {k : Nat} (h : k < ps.length) : pairsL (ps.take (k + 1)) = pairsL (ps.take k) ++ pairL (ps.getD k Pair.zero) := by
  unfold pairsL
  rw [List.take_succ_eq_append_getElem h, List.flatMap_append, List.getD_eq_getElem?_getD, List.getElem?_eq_getElem h]
  simp
theorem pairsL_len {ps : List Pair} (h : ∀ i, PairOk (ps.getD i Pair.zero)) : (pairsL ps).length = 65 * ps.length := by
  have hm : ∀ p ∈ ps, PairOk p := fun p hp => by
    obtain ⟨i, hi, rfl⟩ := List.mem_iff_getElem.1 hp
    have := h i
    rwa [List.getD_eq_getElem?_getD, List.getElem?_eq_getElem hi] at this
  clear h
  induction ps with
  | nil => rfl
  | cons p r ih =>
    have h1 := pairL_len (hm p (by simp))
    have h2 := ih (fun q hq => hm q (by simp [hq]))
    unfold pairsL at h2 ⊢
    rw [List.flatMap_cons, List.length_append, h1, h2, List.length_cons]
    omega
end Go.Proofs.YtmnmmabhmedioaaDoor
