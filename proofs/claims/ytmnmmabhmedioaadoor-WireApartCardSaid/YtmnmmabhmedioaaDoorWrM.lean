/- Wire: SameMessage of one message (no list, no text). -/
import Derived.Test.YtmnmmabhmedioaaDoorWrL
namespace Go.Proofs.YtmnmmabhmedioaaDoor
open Go.RowKit
set_option linter.unusedVariables false
set_option linter.unusedSimpArgs false
set_option maxRecDepth 100000

theorem sameBytes_nil (w : World) : Calls Tryd.prog 19 #[.slice none 0 0, .slice none 0 0] w fun e w' => e = .returned (.bool true) ∧ w' = w := by
  go_enter Tryd.func19, Tryd.ntmps19
  go_wp2
  refine wp_loop_rounds 1 ?_
  rw [rounds_succ]
  go_wp2
  go_ret
  exact ⟨rfl, rfl⟩
theorem sameCommitments_nil (w : World) : Calls Tryd.prog 48 #[.slice none 0 0, .slice none 0 0] w fun e w' => e = .returned (.bool true) ∧ w' = w := by
  go_enter Tryd.func48, Tryd.ntmps48
  go_wp2
  refine wp_loop_rounds 1 ?_
  rw [rounds_succ]
  go_wp2
  go_ret
  exact ⟨rfl, rfl⟩

/-- The message's rows, as they are read out of a block. -/
def RowAt (w : World) (X o : Nat) (A : Array Value) : Prop := ∀ j v, A[j]? = some v → w.cell? ⟨X, o + j, none⟩ = some v
theorem rowAt_of {w : World} {X : Nat} {cs : Array Value} {T : TypeId} {o n : Nat} {l : List UInt8} (hX : w.heap[X]? = some (.cells cs T (0, 0))) (h : RowC cs o n l) : RowAt w X o (arrB l) := fun j v hv => by
  have hj : j < l.length := by
    rcases Nat.lt_or_ge j l.length with h' | h'
    · exact h'
    · rw [Array.getElem?_eq_none (by simpa [arrB] using h')] at hv; cases hv
  have h2 := h.2 j (by rw [← h.1]; exact hj)
  refine cell_of hX (h2.trans ?_)
  rw [← hv, arrB, List.getElem?_toArray, List.getElem?_map, List.getD_eq_getElem?_getD, List.getElem?_eq_getElem hj]
  rfl
theorem pairAt_of {w : World} {X : Nat} {cs : Array Value} {T : TypeId} {m : Msg} {lv tv : Value} (hX : w.heap[X]? = some (.cells cs T (0, 0))) (h : MsgC cs m lv tv) : RowAt w X 35 (pairA m.pair) := fun j v hv => by
  have l1 := h.hid.1
  have l2 := h.bnd.1
  by_cases e0 : j = 0
  · subst e0
    have : (pairA m.pair)[0]? = some (.int .i64 m.pair.id) := by
      unfold pairA
      rw [Array.append_assoc, Array.getElem?_append_left (by simp)]
      rfl
    rw [this] at hv
    cases hv
    exact cell_of hX h.pid
  · have s1 : (#[Value.int .i64 m.pair.id] ++ arrB m.pair.hid).size = 33 := by simp [arrB, l1]
    unfold pairA at hv
    by_cases e1 : j < 33
    · rw [Array.getElem?_append_left (by omega), Array.getElem?_append_right (by simp; omega)] at hv
      have := rowAt_of hX h.hid (j - 1) v (by simpa using hv)
      rw [show 36 + (j - 1) = 35 + j from by omega] at this
      exact this
    · rw [Array.getElem?_append_right (by omega), s1] at hv
      have := rowAt_of hX h.bnd (j - 33) v hv
      rw [show 68 + (j - 33) = 35 + j from by omega] at this
      exact this

theorem run_loadAt_row {w : World} {X o n : Nat} {A : Array Value} (h : RowAt w X o A) (hn : A.size = n) : (loadCellsFrom ⟨X, o, none⟩ 0 n #[]).run Tryd.prog w = .ok A w := by
  subst hn
  have := run_loadCells_list (P := Tryd.prog) w ⟨X, o, none⟩ A.toList (fun j v hv => by
    rw [Go.WideShapes.add_plain]
    exact h j v (by simpa using hv))
  simpa [loadCells] using this
theorem run_loadT {w : World} {X o : Nat} {A : Array Value} {ty : TypeId} {d : TypeDesc} (h : RowAt w X o A) (hu : Tryd.prog.underlying ty = some d) (hd : d.isRow = true) (hi : (Tryd.prog.info? ty).map (·.size) = some A.size) : (Instr.loadAt ty (.pointer (some ⟨X, o, none⟩))).run Tryd.prog w = .ok (.agg A) w := by
  have h' := run_loadAt_mid (P := Tryd.prog) w X o ty A.toList d (fun j v hv => h j v (by simpa using hv)) hu hd (by simpa using hi)
  simpa using h'
theorem wpList_loadG {P : Program} (w : World) {ops : Array Oper} {rest : List Oper} {op : Oper} {a : Act} {Q : Exit → Act → World → Prop} (ty : TypeId) (x : Operand) (ho : op.op = .load ty x)
    (b o : Nat) (hx : a.eval x = .pointer (some ⟨b, o, none⟩)) (hw : Region.wanted op (yielded ops a.tmps) = true) (cs : Array Value) (hc : RowAt w b o cs) (d : TypeDesc)
    (hu : P.underlying ty = some d) (hd : d.isRow = true) (hi : (P.info? ty).map (·.size) = some cs.size)
    (h : wpList P ops Q rest (a.put op.dst (.agg cs)) w) : wpList P ops Q (op :: rest) a w := by
  refine wpList_step fun K hK => ?_
  rw [if_pos hw]
  have h' := wp_load_mid (P := P) (w := w) (a := a) (K := K) (Q := Q) (op := op) ty x ho b o hx cs.toList d (fun j v hv => hc j v (by simpa using hv)) hu hd (by simpa using hi)
  simp only [Array.toArray_toList] at h'
  exact h' (hK _ _ h)

set_option maxHeartbeats 16000000 in
theorem sameMessage_true (c1 c2 : Array Value) (m : Msg) (h1 : MsgC c1 m (.slice none 0 0) (.slice none 0 0)) (h2 : MsgC c2 m (.slice none 0 0) (.slice none 0 0)) (w : World) :
    Calls Tryd.prog 13 #[.agg c1, .agg c2] w fun e w' => e = .returned (.bool true) ∧ Below w.heap.size w w' := by
  have hX : ((w.alloc (.cells c1 36)).alloc (.cells c2 36)).heap[w.heap.size]? = some (.cells c1 36 (0, 0)) := by
    rw [heap_alloc?, if_neg (by simp)]; exact heap_alloc_new w _
  have hY : ((w.alloc (.cells c1 36)).alloc (.cells c2 36)).heap[w.heap.size + 1]? = some (.cells c2 36 (0, 0)) := by
    rw [heap_alloc?, if_pos (by simp)]
  have hB : Below w.heap.size w ((w.alloc (.cells c1 36)).alloc (.cells c2 36)) := later (boxed _ _) (boxed _ _)
  have q1 := eqlB 26 32 Tryd.underlying26 m.session h1.session.1
  have q2 := eqlP m.pair h1.hid.1 h1.bnd.1
  have q3 := eqlB 26 32 Tryd.underlying26 m.bind_ h1.bind_.1
  have q4 := eqlB 31 32 Tryd.underlying31 m.share h1.share.1
  have q5 := eqlB 33 64 Tryd.underlying33 m.sig h1.sig.1
  have i1 : (Tryd.prog.info? 26).map (·.size) = some (arrB m.session).size := by rw [show (arrB m.session).size = 32 from by simp [arrB, h1.session.1]]; kernel_rfl
  have i2 : (Tryd.prog.info? 29).map (·.size) = some (pairA m.pair).size := by rw [show (pairA m.pair).size = 65 from by simp [pairA, arrB, h1.hid.1, h1.bnd.1]]; kernel_rfl
  have i3 : (Tryd.prog.info? 26).map (·.size) = some (arrB m.bind_).size := by rw [show (arrB m.bind_).size = 32 from by simp [arrB, h1.bind_.1]]; kernel_rfl
  have i4 : (Tryd.prog.info? 31).map (·.size) = some (arrB m.share).size := by rw [show (arrB m.share).size = 32 from by simp [arrB, h1.share.1]]; kernel_rfl
  have i5 : (Tryd.prog.info? 33).map (·.size) = some (arrB m.sig).size := by rw [show (arrB m.sig).size = 64 from by simp [arrB, h1.sig.1]]; kernel_rfl
  have x1 := rowAt_of hX h1.session
  have x2 := pairAt_of hX h1
  have x3 := rowAt_of hX h1.bind_
  have x4 := rowAt_of hX h1.share
  have x5 := rowAt_of hX h1.sig
  have y1 := rowAt_of hY h2.session
  have y2 := pairAt_of hY h2
  have y3 := rowAt_of hY h2.bind_
  have y4 := rowAt_of hY h2.share
  have y5 := rowAt_of hY h2.sig
  have k0 := cell_of hX h1.kind
  have k33 := cell_of hX h1.from_
  have k34 := cell_of hX h1.to_
  have k100 := cell_of hX h1.list
  have k101 := cell_of hX h1.text
  have k230 := cell_of hX h1.code
  have j0 := cell_of hY h2.kind
  have j33 := cell_of hY h2.from_
  have j34 := cell_of hY h2.to_
  have j100 := cell_of hY h2.list
  have j101 := cell_of hY h2.text
  have j230 := cell_of hY h2.code
  replace x1 := Lib.hid x1
  replace x2 := Lib.hid x2
  replace x3 := Lib.hid x3
  replace x4 := Lib.hid x4
  replace x5 := Lib.hid x5
  replace y1 := Lib.hid y1
  replace y2 := Lib.hid y2
  replace y3 := Lib.hid y3
  replace y4 := Lib.hid y4
  replace y5 := Lib.hid y5
  clear hX hY h1 h2
  go_enter Tryd.func13, Tryd.ntmps13
  go_upto_region 1 with fail
  generalize (w.alloc (.cells c1 36)).alloc (.cells c2 36) = W at *
  go_step
  repeat (first
    | (apply wpList_loadG (hc := x1.out) (hu := Tryd.underlying26) (hi := i1); (case ho => exact rfl); (case hx => exact rfl); (case hd => rfl); (case hw => simp [Region.wanted, yielded]))
    | (apply wpList_loadG (hc := y1.out) (hu := Tryd.underlying26) (hi := i1); (case ho => exact rfl); (case hx => exact rfl); (case hd => rfl); (case hw => simp [Region.wanted, yielded]))
    | (apply wpList_loadG (hc := x2.out) (hu := Tryd.underlying29) (hi := i2); (case ho => exact rfl); (case hx => exact rfl); (case hd => rfl); (case hw => simp [Region.wanted, yielded]))
    | (apply wpList_loadG (hc := y2.out) (hu := Tryd.underlying29) (hi := i2); (case ho => exact rfl); (case hx => exact rfl); (case hd => rfl); (case hw => simp [Region.wanted, yielded]))
    | (apply wpList_loadG (hc := x3.out) (hu := Tryd.underlying26) (hi := i3); (case ho => exact rfl); (case hx => exact rfl); (case hd => rfl); (case hw => simp [Region.wanted, yielded]))
    | (apply wpList_loadG (hc := y3.out) (hu := Tryd.underlying26) (hi := i3); (case ho => exact rfl); (case hx => exact rfl); (case hd => rfl); (case hw => simp [Region.wanted, yielded]))
    | (apply wpList_loadG (hc := x4.out) (hu := Tryd.underlying31) (hi := i4); (case ho => exact rfl); (case hx => exact rfl); (case hd => rfl); (case hw => simp [Region.wanted, yielded]))
    | (apply wpList_loadG (hc := y4.out) (hu := Tryd.underlying31) (hi := i4); (case ho => exact rfl); (case hx => exact rfl); (case hd => rfl); (case hw => simp [Region.wanted, yielded]))
    | (apply wpList_loadG (hc := x5.out) (hu := Tryd.underlying33) (hi := i5); (case ho => exact rfl); (case hx => exact rfl); (case hd => rfl); (case hw => simp [Region.wanted, yielded]))
    | (apply wpList_loadG (hc := y5.out) (hu := Tryd.underlying33) (hi := i5); (case ho => exact rfl); (case hx => exact rfl); (case hd => rfl); (case hw => simp [Region.wanted, yielded]))
    | (refine wpList_step (fun K hK => ?_); go_simp; refine hK _ _ ?_; clear hK)
    | (refine wpList_step (fun K hK => ?_); go_simp; go_at_call 48; refine (sameCommitments_nil _).mono ?_; rintro e w' ⟨rfl, rfl⟩; refine hK _ _ ?_; clear hK)
    | (refine wpList_step (fun K hK => ?_); go_simp; go_at_call 19; refine (sameBytes_nil _).mono ?_; rintro e w' ⟨rfl, rfl⟩; refine hK _ _ ?_; clear hK))
  refine wpList_nil ?_
  go_wp2_with fail
  go_ret
  exact ⟨rfl, hB⟩
end Go.Proofs.YtmnmmabhmedioaaDoor
