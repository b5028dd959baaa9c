/- Wire: SameMessage of any two messages. (Printed by gen_same.py.) -/
import Derived.Test.YtmnmmabhmedioaaDoorM11
namespace Go.Proofs.YtmnmmabhmedioaaDoor
open Go.RowKit
set_option linter.unusedVariables false
set_option linter.unusedSimpArgs false
set_option maxRecDepth 100000

deriving instance DecidableEq for Msg
theorem eqlG (t : TypeId) (n : Nat) (ht : Tryd.prog.underlying t = some (.array n 5)) (l l' : List UInt8) (hl : l.length = n) (hl' : l'.length = n) (w : World) : (binOp .eql t (.agg (arrB l)) (.agg (arrB l'))).run Tryd.prog w = .ok (.bool (l == l')) w :=
  run_eql_bytes (P := Tryd.prog) w t 5 n ht Tryd.underlying5 size5 l l' hl hl'

set_option maxHeartbeats 16000000 in
theorem sm_0 (c1 c2 : Array Value) (m n : Msg) (LA : Option Addr) (lc : Nat) (TA : Option Addr) (tc : Nat) (LB : Option Addr) (ld : Nat) (TB : Option Addr) (td : Nat) (w : World) (hM : MsgIn w c1 m LA lc TA tc) (hN : MsgIn w c2 n LB ld TB td) (e0 : m.kind ≠ n.kind) : Calls Tryd.prog 13 #[.agg c1, .agg c2] w fun e w' => e = .returned (.bool false) ∧ Below w.heap.size w w' := by
  have hX : ((w.alloc (.cells c1 36)).alloc (.cells c2 36)).heap[w.heap.size]? = some (.cells c1 36 (0, 0)) := by
    rw [heap_alloc?, if_neg (by simp)]; exact heap_alloc_new w _
  have hY : ((w.alloc (.cells c1 36)).alloc (.cells c2 36)).heap[w.heap.size + 1]? = some (.cells c2 36 (0, 0)) := by
    rw [heap_alloc?, if_pos (by simp)]
  have hB : Below w.heap.size w ((w.alloc (.cells c1 36)).alloc (.cells c2 36)) := later (boxed _ _) (boxed _ _)
  have h1 := hM.cells
  have h2 := hN.cells
  replace hM := Lib.hid (hM.on hB)
  replace hN := Lib.hid (hN.on hB)
  replace hB := Lib.hid hB
  replace e0 := Lib.hid e0
  have k0 := cell_of hX h1.kind
  have j0 := cell_of hY h2.kind
  have f0 : (m.kind == n.kind) = false := beq_eq_false_iff_ne.2 e0.out
  clear hX hY h1 h2
  go_enter Tryd.func13, Tryd.ntmps13
  go_upto_region 1 with fail
  generalize ((w.alloc (.cells c1 36)).alloc (.cells c2 36)) = W at *
  go_step
  refine wpList_step (fun K hK => ?_); go_simp; refine hK _ _ ?_; clear hK
  refine wpList_step (fun K hK => ?_); go_simp; refine hK _ _ ?_; clear hK
  refine wpList_step (fun K hK => ?_); go_simp; refine hK _ _ ?_; clear hK
  refine wpList_step (fun K hK => ?_); go_simp; refine hK _ _ ?_; clear hK
  refine wpList_step (fun K hK => ?_); go_simp; refine hK _ _ ?_; clear hK
  refine wpList_step (fun K hK => ?_); go_simp; refine hK _ _ ?_; clear hK
  refine wpList_step (fun K hK => ?_); go_simp; refine hK _ _ ?_; clear hK
  refine wpList_step (fun K hK => ?_); go_simp; refine hK _ _ ?_; clear hK
  refine wpList_step (fun K hK => ?_); go_simp; refine hK _ _ ?_; clear hK
  refine wpList_step (fun K hK => ?_); go_simp; refine hK _ _ ?_; clear hK
  refine wpList_step (fun K hK => ?_); go_simp; refine hK _ _ ?_; clear hK
  refine wpList_step (fun K hK => ?_); go_simp; refine hK _ _ ?_; clear hK
  refine wpList_step (fun K hK => ?_); go_simp; refine hK _ _ ?_; clear hK
  refine wpList_step (fun K hK => ?_); go_simp; refine hK _ _ ?_; clear hK
  refine wpList_step (fun K hK => ?_); go_simp; refine hK _ _ ?_; clear hK
  refine wpList_step (fun K hK => ?_); go_simp; refine hK _ _ ?_; clear hK
  refine wpList_step (fun K hK => ?_); go_simp; refine hK _ _ ?_; clear hK
  refine wpList_step (fun K hK => ?_); go_simp; refine hK _ _ ?_; clear hK
  refine wpList_step (fun K hK => ?_); go_simp; refine hK _ _ ?_; clear hK
  refine wpList_step (fun K hK => ?_); go_simp; refine hK _ _ ?_; clear hK
  refine wpList_step (fun K hK => ?_); go_simp; refine hK _ _ ?_; clear hK
  refine wpList_step (fun K hK => ?_); go_simp; refine hK _ _ ?_; clear hK
  refine wpList_step (fun K hK => ?_); go_simp; refine hK _ _ ?_; clear hK
  refine wpList_step (fun K hK => ?_); go_simp; refine hK _ _ ?_; clear hK
  refine wpList_step (fun K hK => ?_); go_simp; refine hK _ _ ?_; clear hK
  refine wpList_step (fun K hK => ?_); go_simp; refine hK _ _ ?_; clear hK
  refine wpList_step (fun K hK => ?_); go_simp; refine hK _ _ ?_; clear hK
  refine wpList_step (fun K hK => ?_); go_simp; refine hK _ _ ?_; clear hK
  refine wpList_step (fun K hK => ?_); go_simp; refine hK _ _ ?_; clear hK
  refine wpList_step (fun K hK => ?_); go_simp; refine hK _ _ ?_; clear hK
  refine wpList_step (fun K hK => ?_); go_simp; refine hK _ _ ?_; clear hK
  refine wpList_step (fun K hK => ?_); go_simp; refine hK _ _ ?_; clear hK
  refine wpList_step (fun K hK => ?_); go_simp; refine hK _ _ ?_; clear hK
  refine wpList_step (fun K hK => ?_); go_simp; refine hK _ _ ?_; clear hK
  refine wpList_step (fun K hK => ?_); go_simp; refine hK _ _ ?_; clear hK
  refine wpList_step (fun K hK => ?_); go_simp; refine hK _ _ ?_; clear hK
  refine wpList_step (fun K hK => ?_); go_simp; refine hK _ _ ?_; clear hK
  refine wpList_step (fun K hK => ?_); go_simp; refine hK _ _ ?_; clear hK
  refine wpList_step (fun K hK => ?_); go_simp; refine hK _ _ ?_; clear hK
  refine wpList_step (fun K hK => ?_); go_simp; refine hK _ _ ?_; clear hK
  refine wpList_step (fun K hK => ?_); go_simp; refine hK _ _ ?_; clear hK
  refine wpList_step (fun K hK => ?_); go_simp; refine hK _ _ ?_; clear hK
  refine wpList_step (fun K hK => ?_); go_simp; refine hK _ _ ?_; clear hK
  refine wpList_step (fun K hK => ?_); go_simp; refine hK _ _ ?_; clear hK
  refine wpList_step (fun K hK => ?_); go_simp; refine hK _ _ ?_; clear hK
  refine wpList_step (fun K hK => ?_); go_simp; refine hK _ _ ?_; clear hK
  refine wpList_step (fun K hK => ?_); go_simp; refine hK _ _ ?_; clear hK
  refine wpList_step (fun K hK => ?_); go_simp; refine hK _ _ ?_; clear hK
  refine wpList_step (fun K hK => ?_); go_simp; refine hK _ _ ?_; clear hK
  refine wpList_step (fun K hK => ?_); go_simp; refine hK _ _ ?_; clear hK
  refine wpList_step (fun K hK => ?_); go_simp; refine hK _ _ ?_; clear hK
  refine wpList_step (fun K hK => ?_); go_simp; refine hK _ _ ?_; clear hK
  refine wpList_step (fun K hK => ?_); go_simp; refine hK _ _ ?_; clear hK
  refine wpList_step (fun K hK => ?_); go_simp; refine hK _ _ ?_; clear hK
  refine wpList_step (fun K hK => ?_); go_simp; refine hK _ _ ?_; clear hK
  refine wpList_step (fun K hK => ?_); go_simp; refine hK _ _ ?_; clear hK
  refine wpList_step (fun K hK => ?_); go_simp; refine hK _ _ ?_; clear hK
  refine wpList_step (fun K hK => ?_); go_simp; refine hK _ _ ?_; clear hK
  refine wpList_step (fun K hK => ?_); go_simp; refine hK _ _ ?_; clear hK
  refine wpList_step (fun K hK => ?_); go_simp; refine hK _ _ ?_; clear hK
  refine wpList_step (fun K hK => ?_); go_simp; refine hK _ _ ?_; clear hK
  refine wpList_step (fun K hK => ?_); go_simp; refine hK _ _ ?_; clear hK
  refine wpList_step (fun K hK => ?_); go_simp; refine hK _ _ ?_; clear hK
  refine wpList_step (fun K hK => ?_); go_simp; refine hK _ _ ?_; clear hK
  refine wpList_step (fun K hK => ?_); go_simp; refine hK _ _ ?_; clear hK
  refine wpList_step (fun K hK => ?_); go_simp; refine hK _ _ ?_; clear hK
  refine wpList_step (fun K hK => ?_); go_simp; refine hK _ _ ?_; clear hK
  refine wpList_step (fun K hK => ?_); go_simp; refine hK _ _ ?_; clear hK
  refine wpList_step (fun K hK => ?_); go_simp; refine hK _ _ ?_; clear hK
  refine wpList_step (fun K hK => ?_); go_simp; refine hK _ _ ?_; clear hK
  refine wpList_step (fun K hK => ?_); go_simp; refine hK _ _ ?_; clear hK
  refine wpList_step (fun K hK => ?_); go_simp; refine hK _ _ ?_; clear hK
  refine wpList_step (fun K hK => ?_); go_simp; refine hK _ _ ?_; clear hK
  refine wpList_step (fun K hK => ?_); go_simp; refine hK _ _ ?_; clear hK
  refine wpList_step (fun K hK => ?_); go_simp; refine hK _ _ ?_; clear hK
  refine wpList_step (fun K hK => ?_); go_simp; refine hK _ _ ?_; clear hK
  refine wpList_nil ?_
  go_wp2_with fail
  go_ret
  exact ⟨rfl, hB.out⟩

set_option maxHeartbeats 16000000 in
theorem sm_1 (c1 c2 : Array Value) (m n : Msg) (LA : Option Addr) (lc : Nat) (TA : Option Addr) (tc : Nat) (LB : Option Addr) (ld : Nat) (TB : Option Addr) (td : Nat) (w : World) (hM : MsgIn w c1 m LA lc TA tc) (hN : MsgIn w c2 n LB ld TB td) (e0 : m.kind = n.kind) (e1 : m.session ≠ n.session) : Calls Tryd.prog 13 #[.agg c1, .agg c2] w fun e w' => e = .returned (.bool false) ∧ Below w.heap.size w w' := by
  have hX : ((w.alloc (.cells c1 36)).alloc (.cells c2 36)).heap[w.heap.size]? = some (.cells c1 36 (0, 0)) := by
    rw [heap_alloc?, if_neg (by simp)]; exact heap_alloc_new w _
  have hY : ((w.alloc (.cells c1 36)).alloc (.cells c2 36)).heap[w.heap.size + 1]? = some (.cells c2 36 (0, 0)) := by
    rw [heap_alloc?, if_pos (by simp)]
  have hB : Below w.heap.size w ((w.alloc (.cells c1 36)).alloc (.cells c2 36)) := later (boxed _ _) (boxed _ _)
  have h1 := hM.cells
  have h2 := hN.cells
  replace hM := Lib.hid (hM.on hB)
  replace hN := Lib.hid (hN.on hB)
  replace hB := Lib.hid hB
  replace e0 := Lib.hid e0
  replace e1 := Lib.hid e1
  have k0 := cell_of hX h1.kind
  have j0 := cell_of hY h2.kind
  have f0 : (m.kind == n.kind) = true := beq_iff_eq.2 e0.out
  have x1 := Lib.hid (rowAt_of hX h1.session)
  have y1 := Lib.hid (rowAt_of hY h2.session)
  have i1 : (Tryd.prog.info? 26).map (·.size) = some (arrB m.session).size := by rw [show (arrB m.session).size = 32 from by simp [arrB, h1.session.1]]; kernel_rfl
  have g1 : (Tryd.prog.info? 26).map (·.size) = some (arrB n.session).size := by rw [show (arrB n.session).size = 32 from by simp [arrB, h2.session.1]]; kernel_rfl
  have q1 : ∀ w, (binOp .eql 26 (.agg (arrB m.session)) (.agg (arrB n.session))).run Tryd.prog w = .ok (.bool false) w := fun w => by rw [eqlG 26 32 Tryd.underlying26 m.session n.session h1.session.1 h2.session.1]; rw [beq_eq_false_iff_ne.2 e1.out]
  clear hX hY h1 h2
  go_enter Tryd.func13, Tryd.ntmps13
  go_upto_region 1 with fail
  generalize ((w.alloc (.cells c1 36)).alloc (.cells c2 36)) = W at *
  go_step
  refine wpList_step (fun K hK => ?_); go_simp; refine hK _ _ ?_; clear hK
  refine wpList_step (fun K hK => ?_); go_simp; refine hK _ _ ?_; clear hK
  refine wpList_step (fun K hK => ?_); go_simp; refine hK _ _ ?_; clear hK
  refine wpList_step (fun K hK => ?_); go_simp; refine hK _ _ ?_; clear hK
  refine wpList_step (fun K hK => ?_); go_simp; refine hK _ _ ?_; clear hK
  refine wpList_step (fun K hK => ?_); go_simp; refine hK _ _ ?_; clear hK
  refine wpList_step (fun K hK => ?_); go_simp; refine hK _ _ ?_; clear hK
  apply wpList_loadG (hc := x1.out) (hu := Tryd.underlying26) (hi := i1); (case ho => exact rfl); (case hx => exact rfl); (case hd => rfl); (case hw => simp [Region.wanted, yielded])
  refine wpList_step (fun K hK => ?_); go_simp; refine hK _ _ ?_; clear hK
  apply wpList_loadG (hc := y1.out) (hu := Tryd.underlying26) (hi := g1); (case ho => exact rfl); (case hx => exact rfl); (case hd => rfl); (case hw => simp [Region.wanted, yielded])
  refine wpList_step (fun K hK => ?_); go_simp; refine hK _ _ ?_; clear hK
  refine wpList_step (fun K hK => ?_); go_simp; refine hK _ _ ?_; clear hK
  refine wpList_step (fun K hK => ?_); go_simp; refine hK _ _ ?_; clear hK
  refine wpList_step (fun K hK => ?_); go_simp; refine hK _ _ ?_; clear hK
  refine wpList_step (fun K hK => ?_); go_simp; refine hK _ _ ?_; clear hK
  refine wpList_step (fun K hK => ?_); go_simp; refine hK _ _ ?_; clear hK
  refine wpList_step (fun K hK => ?_); go_simp; refine hK _ _ ?_; clear hK
  refine wpList_step (fun K hK => ?_); go_simp; refine hK _ _ ?_; clear hK
  refine wpList_step (fun K hK => ?_); go_simp; refine hK _ _ ?_; clear hK
  refine wpList_step (fun K hK => ?_); go_simp; refine hK _ _ ?_; clear hK
  refine wpList_step (fun K hK => ?_); go_simp; refine hK _ _ ?_; clear hK
  refine wpList_step (fun K hK => ?_); go_simp; refine hK _ _ ?_; clear hK
  refine wpList_step (fun K hK => ?_); go_simp; refine hK _ _ ?_; clear hK
  refine wpList_step (fun K hK => ?_); go_simp; refine hK _ _ ?_; clear hK
  refine wpList_step (fun K hK => ?_); go_simp; refine hK _ _ ?_; clear hK
  refine wpList_step (fun K hK => ?_); go_simp; refine hK _ _ ?_; clear hK
  refine wpList_step (fun K hK => ?_); go_simp; refine hK _ _ ?_; clear hK
  refine wpList_step (fun K hK => ?_); go_simp; refine hK _ _ ?_; clear hK
  refine wpList_step (fun K hK => ?_); go_simp; refine hK _ _ ?_; clear hK
  refine wpList_step (fun K hK => ?_); go_simp; refine hK _ _ ?_; clear hK
  refine wpList_step (fun K hK => ?_); go_simp; refine hK _ _ ?_; clear hK
  refine wpList_step (fun K hK => ?_); go_simp; refine hK _ _ ?_; clear hK
  refine wpList_step (fun K hK => ?_); go_simp; refine hK _ _ ?_; clear hK
  refine wpList_step (fun K hK => ?_); go_simp; refine hK _ _ ?_; clear hK
  refine wpList_step (fun K hK => ?_); go_simp; refine hK _ _ ?_; clear hK
  refine wpList_step (fun K hK => ?_); go_simp; refine hK _ _ ?_; clear hK
  refine wpList_step (fun K hK => ?_); go_simp; refine hK _ _ ?_; clear hK
  refine wpList_step (fun K hK => ?_); go_simp; refine hK _ _ ?_; clear hK
  refine wpList_step (fun K hK => ?_); go_simp; refine hK _ _ ?_; clear hK
  refine wpList_step (fun K hK => ?_); go_simp; refine hK _ _ ?_; clear hK
  refine wpList_step (fun K hK => ?_); go_simp; refine hK _ _ ?_; clear hK
  refine wpList_step (fun K hK => ?_); go_simp; refine hK _ _ ?_; clear hK
  refine wpList_step (fun K hK => ?_); go_simp; refine hK _ _ ?_; clear hK
  refine wpList_step (fun K hK => ?_); go_simp; refine hK _ _ ?_; clear hK
  refine wpList_step (fun K hK => ?_); go_simp; refine hK _ _ ?_; clear hK
  refine wpList_step (fun K hK => ?_); go_simp; refine hK _ _ ?_; clear hK
  refine wpList_step (fun K hK => ?_); go_simp; refine hK _ _ ?_; clear hK
  refine wpList_step (fun K hK => ?_); go_simp; refine hK _ _ ?_; clear hK
  refine wpList_step (fun K hK => ?_); go_simp; refine hK _ _ ?_; clear hK
  refine wpList_step (fun K hK => ?_); go_simp; refine hK _ _ ?_; clear hK
  refine wpList_step (fun K hK => ?_); go_simp; refine hK _ _ ?_; clear hK
  refine wpList_step (fun K hK => ?_); go_simp; refine hK _ _ ?_; clear hK
  refine wpList_step (fun K hK => ?_); go_simp; refine hK _ _ ?_; clear hK
  refine wpList_step (fun K hK => ?_); go_simp; refine hK _ _ ?_; clear hK
  refine wpList_step (fun K hK => ?_); go_simp; refine hK _ _ ?_; clear hK
  refine wpList_step (fun K hK => ?_); go_simp; refine hK _ _ ?_; clear hK
  refine wpList_step (fun K hK => ?_); go_simp; refine hK _ _ ?_; clear hK
  refine wpList_step (fun K hK => ?_); go_simp; refine hK _ _ ?_; clear hK
  refine wpList_step (fun K hK => ?_); go_simp; refine hK _ _ ?_; clear hK
  refine wpList_step (fun K hK => ?_); go_simp; refine hK _ _ ?_; clear hK
  refine wpList_step (fun K hK => ?_); go_simp; refine hK _ _ ?_; clear hK
  refine wpList_step (fun K hK => ?_); go_simp; refine hK _ _ ?_; clear hK
  refine wpList_step (fun K hK => ?_); go_simp; refine hK _ _ ?_; clear hK
  refine wpList_step (fun K hK => ?_); go_simp; refine hK _ _ ?_; clear hK
  refine wpList_step (fun K hK => ?_); go_simp; refine hK _ _ ?_; clear hK
  refine wpList_step (fun K hK => ?_); go_simp; refine hK _ _ ?_; clear hK
  refine wpList_step (fun K hK => ?_); go_simp; refine hK _ _ ?_; clear hK
  refine wpList_step (fun K hK => ?_); go_simp; refine hK _ _ ?_; clear hK
  refine wpList_step (fun K hK => ?_); go_simp; refine hK _ _ ?_; clear hK
  refine wpList_step (fun K hK => ?_); go_simp; refine hK _ _ ?_; clear hK
  refine wpList_step (fun K hK => ?_); go_simp; refine hK _ _ ?_; clear hK
  refine wpList_step (fun K hK => ?_); go_simp; refine hK _ _ ?_; clear hK
  refine wpList_step (fun K hK => ?_); go_simp; refine hK _ _ ?_; clear hK
  refine wpList_step (fun K hK => ?_); go_simp; refine hK _ _ ?_; clear hK
  refine wpList_step (fun K hK => ?_); go_simp; refine hK _ _ ?_; clear hK
  refine wpList_step (fun K hK => ?_); go_simp; refine hK _ _ ?_; clear hK
  refine wpList_nil ?_
  go_wp2_with fail
  go_ret
  exact ⟨rfl, hB.out⟩

set_option maxHeartbeats 16000000 in
theorem sm_2 (c1 c2 : Array Value) (m n : Msg) (LA : Option Addr) (lc : Nat) (TA : Option Addr) (tc : Nat) (LB : Option Addr) (ld : Nat) (TB : Option Addr) (td : Nat) (w : World) (hM : MsgIn w c1 m LA lc TA tc) (hN : MsgIn w c2 n LB ld TB td) (e0 : m.kind = n.kind) (e1 : m.session = n.session) (e2 : m.from_ ≠ n.from_) : Calls Tryd.prog 13 #[.agg c1, .agg c2] w fun e w' => e = .returned (.bool false) ∧ Below w.heap.size w w' := by
  have hX : ((w.alloc (.cells c1 36)).alloc (.cells c2 36)).heap[w.heap.size]? = some (.cells c1 36 (0, 0)) := by
    rw [heap_alloc?, if_neg (by simp)]; exact heap_alloc_new w _
  have hY : ((w.alloc (.cells c1 36)).alloc (.cells c2 36)).heap[w.heap.size + 1]? = some (.cells c2 36 (0, 0)) := by
    rw [heap_alloc?, if_pos (by simp)]
  have hB : Below w.heap.size w ((w.alloc (.cells c1 36)).alloc (.cells c2 36)) := later (boxed _ _) (boxed _ _)
  have h1 := hM.cells
  have h2 := hN.cells
  replace hM := Lib.hid (hM.on hB)
  replace hN := Lib.hid (hN.on hB)
  replace hB := Lib.hid hB
  replace e0 := Lib.hid e0
  replace e1 := Lib.hid e1
  replace e2 := Lib.hid e2
  have k0 := cell_of hX h1.kind
  have j0 := cell_of hY h2.kind
  have f0 : (m.kind == n.kind) = true := beq_iff_eq.2 e0.out
  have x1 := Lib.hid (rowAt_of hX h1.session)
  have y1 := Lib.hid (rowAt_of hY h2.session)
  have i1 : (Tryd.prog.info? 26).map (·.size) = some (arrB m.session).size := by rw [show (arrB m.session).size = 32 from by simp [arrB, h1.session.1]]; kernel_rfl
  have g1 : (Tryd.prog.info? 26).map (·.size) = some (arrB n.session).size := by rw [show (arrB n.session).size = 32 from by simp [arrB, h2.session.1]]; kernel_rfl
  have q1 : ∀ w, (binOp .eql 26 (.agg (arrB m.session)) (.agg (arrB n.session))).run Tryd.prog w = .ok (.bool true) w := fun w => by rw [eqlG 26 32 Tryd.underlying26 m.session n.session h1.session.1 h2.session.1]; rw [beq_iff_eq.2 e1.out]
  have k33 := cell_of hX h1.from_
  have j33 := cell_of hY h2.from_
  have f2 : (m.from_ == n.from_) = false := beq_eq_false_iff_ne.2 e2.out
  clear hX hY h1 h2
  go_enter Tryd.func13, Tryd.ntmps13
  go_upto_region 1 with fail
  generalize ((w.alloc (.cells c1 36)).alloc (.cells c2 36)) = W at *
  go_step
  refine wpList_step (fun K hK => ?_); go_simp; refine hK _ _ ?_; clear hK
  refine wpList_step (fun K hK => ?_); go_simp; refine hK _ _ ?_; clear hK
  refine wpList_step (fun K hK => ?_); go_simp; refine hK _ _ ?_; clear hK
  refine wpList_step (fun K hK => ?_); go_simp; refine hK _ _ ?_; clear hK
  refine wpList_step (fun K hK => ?_); go_simp; refine hK _ _ ?_; clear hK
  refine wpList_step (fun K hK => ?_); go_simp; refine hK _ _ ?_; clear hK
  refine wpList_step (fun K hK => ?_); go_simp; refine hK _ _ ?_; clear hK
  apply wpList_loadG (hc := x1.out) (hu := Tryd.underlying26) (hi := i1); (case ho => exact rfl); (case hx => exact rfl); (case hd => rfl); (case hw => simp [Region.wanted, yielded])
  refine wpList_step (fun K hK => ?_); go_simp; refine hK _ _ ?_; clear hK
  apply wpList_loadG (hc := y1.out) (hu := Tryd.underlying26) (hi := g1); (case ho => exact rfl); (case hx => exact rfl); (case hd => rfl); (case hw => simp [Region.wanted, yielded])
  refine wpList_step (fun K hK => ?_); go_simp; refine hK _ _ ?_; clear hK
  refine wpList_step (fun K hK => ?_); go_simp; refine hK _ _ ?_; clear hK
  refine wpList_step (fun K hK => ?_); go_simp; refine hK _ _ ?_; clear hK
  refine wpList_step (fun K hK => ?_); go_simp; refine hK _ _ ?_; clear hK
  refine wpList_step (fun K hK => ?_); go_simp; refine hK _ _ ?_; clear hK
  refine wpList_step (fun K hK => ?_); go_simp; refine hK _ _ ?_; clear hK
  refine wpList_step (fun K hK => ?_); go_simp; refine hK _ _ ?_; clear hK
  refine wpList_step (fun K hK => ?_); go_simp; refine hK _ _ ?_; clear hK
  refine wpList_step (fun K hK => ?_); go_simp; refine hK _ _ ?_; clear hK
  refine wpList_step (fun K hK => ?_); go_simp; refine hK _ _ ?_; clear hK
  refine wpList_step (fun K hK => ?_); go_simp; refine hK _ _ ?_; clear hK
  refine wpList_step (fun K hK => ?_); go_simp; refine hK _ _ ?_; clear hK
  refine wpList_step (fun K hK => ?_); go_simp; refine hK _ _ ?_; clear hK
  refine wpList_step (fun K hK => ?_); go_simp; refine hK _ _ ?_; clear hK
  refine wpList_step (fun K hK => ?_); go_simp; refine hK _ _ ?_; clear hK
  refine wpList_step (fun K hK => ?_); go_simp; refine hK _ _ ?_; clear hK
  refine wpList_step (fun K hK => ?_); go_simp; refine hK _ _ ?_; clear hK
  refine wpList_step (fun K hK => ?_); go_simp; refine hK _ _ ?_; clear hK
  refine wpList_step (fun K hK => ?_); go_simp; refine hK _ _ ?_; clear hK
  refine wpList_step (fun K hK => ?_); go_simp; refine hK _ _ ?_; clear hK
  refine wpList_step (fun K hK => ?_); go_simp; refine hK _ _ ?_; clear hK
  refine wpList_step (fun K hK => ?_); go_simp; refine hK _ _ ?_; clear hK
  refine wpList_step (fun K hK => ?_); go_simp; refine hK _ _ ?_; clear hK
  refine wpList_step (fun K hK => ?_); go_simp; refine hK _ _ ?_; clear hK
  refine wpList_step (fun K hK => ?_); go_simp; refine hK _ _ ?_; clear hK
  refine wpList_step (fun K hK => ?_); go_simp; refine hK _ _ ?_; clear hK
  refine wpList_step (fun K hK => ?_); go_simp; refine hK _ _ ?_; clear hK
  refine wpList_step (fun K hK => ?_); go_simp; refine hK _ _ ?_; clear hK
  refine wpList_step (fun K hK => ?_); go_simp; refine hK _ _ ?_; clear hK
  refine wpList_step (fun K hK => ?_); go_simp; refine hK _ _ ?_; clear hK
  refine wpList_step (fun K hK => ?_); go_simp; refine hK _ _ ?_; clear hK
  refine wpList_step (fun K hK => ?_); go_simp; refine hK _ _ ?_; clear hK
  refine wpList_step (fun K hK => ?_); go_simp; refine hK _ _ ?_; clear hK
  refine wpList_step (fun K hK => ?_); go_simp; refine hK _ _ ?_; clear hK
  refine wpList_step (fun K hK => ?_); go_simp; refine hK _ _ ?_; clear hK
  refine wpList_step (fun K hK => ?_); go_simp; refine hK _ _ ?_; clear hK
  refine wpList_step (fun K hK => ?_); go_simp; refine hK _ _ ?_; clear hK
  refine wpList_step (fun K hK => ?_); go_simp; refine hK _ _ ?_; clear hK
  refine wpList_step (fun K hK => ?_); go_simp; refine hK _ _ ?_; clear hK
  refine wpList_step (fun K hK => ?_); go_simp; refine hK _ _ ?_; clear hK
  refine wpList_step (fun K hK => ?_); go_simp; refine hK _ _ ?_; clear hK
  refine wpList_step (fun K hK => ?_); go_simp; refine hK _ _ ?_; clear hK
  refine wpList_step (fun K hK => ?_); go_simp; refine hK _ _ ?_; clear hK
  refine wpList_step (fun K hK => ?_); go_simp; refine hK _ _ ?_; clear hK
  refine wpList_step (fun K hK => ?_); go_simp; refine hK _ _ ?_; clear hK
  refine wpList_step (fun K hK => ?_); go_simp; refine hK _ _ ?_; clear hK
  refine wpList_step (fun K hK => ?_); go_simp; refine hK _ _ ?_; clear hK
  refine wpList_step (fun K hK => ?_); go_simp; refine hK _ _ ?_; clear hK
  refine wpList_step (fun K hK => ?_); go_simp; refine hK _ _ ?_; clear hK
  refine wpList_step (fun K hK => ?_); go_simp; refine hK _ _ ?_; clear hK
  refine wpList_step (fun K hK => ?_); go_simp; refine hK _ _ ?_; clear hK
  refine wpList_step (fun K hK => ?_); go_simp; refine hK _ _ ?_; clear hK
  refine wpList_step (fun K hK => ?_); go_simp; refine hK _ _ ?_; clear hK
  refine wpList_step (fun K hK => ?_); go_simp; refine hK _ _ ?_; clear hK
  refine wpList_step (fun K hK => ?_); go_simp; refine hK _ _ ?_; clear hK
  refine wpList_step (fun K hK => ?_); go_simp; refine hK _ _ ?_; clear hK
  refine wpList_step (fun K hK => ?_); go_simp; refine hK _ _ ?_; clear hK
  refine wpList_step (fun K hK => ?_); go_simp; refine hK _ _ ?_; clear hK
  refine wpList_step (fun K hK => ?_); go_simp; refine hK _ _ ?_; clear hK
  refine wpList_step (fun K hK => ?_); go_simp; refine hK _ _ ?_; clear hK
  refine wpList_step (fun K hK => ?_); go_simp; refine hK _ _ ?_; clear hK
  refine wpList_step (fun K hK => ?_); go_simp; refine hK _ _ ?_; clear hK
  refine wpList_step (fun K hK => ?_); go_simp; refine hK _ _ ?_; clear hK
  refine wpList_step (fun K hK => ?_); go_simp; refine hK _ _ ?_; clear hK
  refine wpList_step (fun K hK => ?_); go_simp; refine hK _ _ ?_; clear hK
  refine wpList_step (fun K hK => ?_); go_simp; refine hK _ _ ?_; clear hK
  refine wpList_nil ?_
  go_wp2_with fail
  go_ret
  exact ⟨rfl, hB.out⟩

set_option maxHeartbeats 16000000 in
theorem sm_3 (c1 c2 : Array Value) (m n : Msg) (LA : Option Addr) (lc : Nat) (TA : Option Addr) (tc : Nat) (LB : Option Addr) (ld : Nat) (TB : Option Addr) (td : Nat) (w : World) (hM : MsgIn w c1 m LA lc TA tc) (hN : MsgIn w c2 n LB ld TB td) (e0 : m.kind = n.kind) (e1 : m.session = n.session) (e2 : m.from_ = n.from_) (e3 : m.to_ ≠ n.to_) : Calls Tryd.prog 13 #[.agg c1, .agg c2] w fun e w' => e = .returned (.bool false) ∧ Below w.heap.size w w' := by
  have hX : ((w.alloc (.cells c1 36)).alloc (.cells c2 36)).heap[w.heap.size]? = some (.cells c1 36 (0, 0)) := by
    rw [heap_alloc?, if_neg (by simp)]; exact heap_alloc_new w _
  have hY : ((w.alloc (.cells c1 36)).alloc (.cells c2 36)).heap[w.heap.size + 1]? = some (.cells c2 36 (0, 0)) := by
    rw [heap_alloc?, if_pos (by simp)]
  have hB : Below w.heap.size w ((w.alloc (.cells c1 36)).alloc (.cells c2 36)) := later (boxed _ _) (boxed _ _)
  have h1 := hM.cells
  have h2 := hN.cells
  replace hM := Lib.hid (hM.on hB)
  replace hN := Lib.hid (hN.on hB)
  replace hB := Lib.hid hB
  replace e0 := Lib.hid e0
  replace e1 := Lib.hid e1
  replace e2 := Lib.hid e2
  replace e3 := Lib.hid e3
  have k0 := cell_of hX h1.kind
  have j0 := cell_of hY h2.kind
  have f0 : (m.kind == n.kind) = true := beq_iff_eq.2 e0.out
  have x1 := Lib.hid (rowAt_of hX h1.session)
  have y1 := Lib.hid (rowAt_of hY h2.session)
  have i1 : (Tryd.prog.info? 26).map (·.size) = some (arrB m.session).size := by rw [show (arrB m.session).size = 32 from by simp [arrB, h1.session.1]]; kernel_rfl
  have g1 : (Tryd.prog.info? 26).map (·.size) = some (arrB n.session).size := by rw [show (arrB n.session).size = 32 from by simp [arrB, h2.session.1]]; kernel_rfl
  have q1 : ∀ w, (binOp .eql 26 (.agg (arrB m.session)) (.agg (arrB n.session))).run Tryd.prog w = .ok (.bool true) w := fun w => by rw [eqlG 26 32 Tryd.underlying26 m.session n.session h1.session.1 h2.session.1]; rw [beq_iff_eq.2 e1.out]
  have k33 := cell_of hX h1.from_
  have j33 := cell_of hY h2.from_
  have f2 : (m.from_ == n.from_) = true := beq_iff_eq.2 e2.out
  have k34 := cell_of hX h1.to_
  have j34 := cell_of hY h2.to_
  have f3 : (m.to_ == n.to_) = false := beq_eq_false_iff_ne.2 e3.out
  clear hX hY h1 h2
  go_enter Tryd.func13, Tryd.ntmps13
  go_upto_region 1 with fail
  generalize ((w.alloc (.cells c1 36)).alloc (.cells c2 36)) = W at *
  go_step
  refine wpList_step (fun K hK => ?_); go_simp; refine hK _ _ ?_; clear hK
  refine wpList_step (fun K hK => ?_); go_simp; refine hK _ _ ?_; clear hK
  refine wpList_step (fun K hK => ?_); go_simp; refine hK _ _ ?_; clear hK
  refine wpList_step (fun K hK => ?_); go_simp; refine hK _ _ ?_; clear hK
  refine wpList_step (fun K hK => ?_); go_simp; refine hK _ _ ?_; clear hK
  refine wpList_step (fun K hK => ?_); go_simp; refine hK _ _ ?_; clear hK
  refine wpList_step (fun K hK => ?_); go_simp; refine hK _ _ ?_; clear hK
  apply wpList_loadG (hc := x1.out) (hu := Tryd.underlying26) (hi := i1); (case ho => exact rfl); (case hx => exact rfl); (case hd => rfl); (case hw => simp [Region.wanted, yielded])
  refine wpList_step (fun K hK => ?_); go_simp; refine hK _ _ ?_; clear hK
  apply wpList_loadG (hc := y1.out) (hu := Tryd.underlying26) (hi := g1); (case ho => exact rfl); (case hx => exact rfl); (case hd => rfl); (case hw => simp [Region.wanted, yielded])
  refine wpList_step (fun K hK => ?_); go_simp; refine hK _ _ ?_; clear hK
  refine wpList_step (fun K hK => ?_); go_simp; refine hK _ _ ?_; clear hK
  refine wpList_step (fun K hK => ?_); go_simp; refine hK _ _ ?_; clear hK
  refine wpList_step (fun K hK => ?_); go_simp; refine hK _ _ ?_; clear hK
  refine wpList_step (fun K hK => ?_); go_simp; refine hK _ _ ?_; clear hK
  refine wpList_step (fun K hK => ?_); go_simp; refine hK _ _ ?_; clear hK
  refine wpList_step (fun K hK => ?_); go_simp; refine hK _ _ ?_; clear hK
  refine wpList_step (fun K hK => ?_); go_simp; refine hK _ _ ?_; clear hK
  refine wpList_step (fun K hK => ?_); go_simp; refine hK _ _ ?_; clear hK
  refine wpList_step (fun K hK => ?_); go_simp; refine hK _ _ ?_; clear hK
  refine wpList_step (fun K hK => ?_); go_simp; refine hK _ _ ?_; clear hK
  refine wpList_step (fun K hK => ?_); go_simp; refine hK _ _ ?_; clear hK
  refine wpList_step (fun K hK => ?_); go_simp; refine hK _ _ ?_; clear hK
  refine wpList_step (fun K hK => ?_); go_simp; refine hK _ _ ?_; clear hK
  refine wpList_step (fun K hK => ?_); go_simp; refine hK _ _ ?_; clear hK
  refine wpList_step (fun K hK => ?_); go_simp; refine hK _ _ ?_; clear hK
  refine wpList_step (fun K hK => ?_); go_simp; refine hK _ _ ?_; clear hK
  refine wpList_step (fun K hK => ?_); go_simp; refine hK _ _ ?_; clear hK
  refine wpList_step (fun K hK => ?_); go_simp; refine hK _ _ ?_; clear hK
  refine wpList_step (fun K hK => ?_); go_simp; refine hK _ _ ?_; clear hK
  refine wpList_step (fun K hK => ?_); go_simp; refine hK _ _ ?_; clear hK
  refine wpList_step (fun K hK => ?_); go_simp; refine hK _ _ ?_; clear hK
  refine wpList_step (fun K hK => ?_); go_simp; refine hK _ _ ?_; clear hK
  refine wpList_step (fun K hK => ?_); go_simp; refine hK _ _ ?_; clear hK
  refine wpList_step (fun K hK => ?_); go_simp; refine hK _ _ ?_; clear hK
  refine wpList_step (fun K hK => ?_); go_simp; refine hK _ _ ?_; clear hK
  refine wpList_step (fun K hK => ?_); go_simp; refine hK _ _ ?_; clear hK
  refine wpList_step (fun K hK => ?_); go_simp; refine hK _ _ ?_; clear hK
  refine wpList_step (fun K hK => ?_); go_simp; refine hK _ _ ?_; clear hK
  refine wpList_step (fun K hK => ?_); go_simp; refine hK _ _ ?_; clear hK
  refine wpList_step (fun K hK => ?_); go_simp; refine hK _ _ ?_; clear hK
  refine wpList_step (fun K hK => ?_); go_simp; refine hK _ _ ?_; clear hK
  refine wpList_step (fun K hK => ?_); go_simp; refine hK _ _ ?_; clear hK
  refine wpList_step (fun K hK => ?_); go_simp; refine hK _ _ ?_; clear hK
  refine wpList_step (fun K hK => ?_); go_simp; refine hK _ _ ?_; clear hK
  refine wpList_step (fun K hK => ?_); go_simp; refine hK _ _ ?_; clear hK
  refine wpList_step (fun K hK => ?_); go_simp; refine hK _ _ ?_; clear hK
  refine wpList_step (fun K hK => ?_); go_simp; refine hK _ _ ?_; clear hK
  refine wpList_step (fun K hK => ?_); go_simp; refine hK _ _ ?_; clear hK
  refine wpList_step (fun K hK => ?_); go_simp; refine hK _ _ ?_; clear hK
  refine wpList_step (fun K hK => ?_); go_simp; refine hK _ _ ?_; clear hK
  refine wpList_step (fun K hK => ?_); go_simp; refine hK _ _ ?_; clear hK
  refine wpList_step (fun K hK => ?_); go_simp; refine hK _ _ ?_; clear hK
  refine wpList_step (fun K hK => ?_); go_simp; refine hK _ _ ?_; clear hK
  refine wpList_step (fun K hK => ?_); go_simp; refine hK _ _ ?_; clear hK
  refine wpList_step (fun K hK => ?_); go_simp; refine hK _ _ ?_; clear hK
  refine wpList_step (fun K hK => ?_); go_simp; refine hK _ _ ?_; clear hK
  refine wpList_step (fun K hK => ?_); go_simp; refine hK _ _ ?_; clear hK
  refine wpList_step (fun K hK => ?_); go_simp; refine hK _ _ ?_; clear hK
  refine wpList_step (fun K hK => ?_); go_simp; refine hK _ _ ?_; clear hK
  refine wpList_step (fun K hK => ?_); go_simp; refine hK _ _ ?_; clear hK
  refine wpList_step (fun K hK => ?_); go_simp; refine hK _ _ ?_; clear hK
  refine wpList_step (fun K hK => ?_); go_simp; refine hK _ _ ?_; clear hK
  refine wpList_step (fun K hK => ?_); go_simp; refine hK _ _ ?_; clear hK
  refine wpList_step (fun K hK => ?_); go_simp; refine hK _ _ ?_; clear hK
  refine wpList_step (fun K hK => ?_); go_simp; refine hK _ _ ?_; clear hK
  refine wpList_step (fun K hK => ?_); go_simp; refine hK _ _ ?_; clear hK
  refine wpList_step (fun K hK => ?_); go_simp; refine hK _ _ ?_; clear hK
  refine wpList_step (fun K hK => ?_); go_simp; refine hK _ _ ?_; clear hK
  refine wpList_step (fun K hK => ?_); go_simp; refine hK _ _ ?_; clear hK
  refine wpList_step (fun K hK => ?_); go_simp; refine hK _ _ ?_; clear hK
  refine wpList_step (fun K hK => ?_); go_simp; refine hK _ _ ?_; clear hK
  refine wpList_step (fun K hK => ?_); go_simp; refine hK _ _ ?_; clear hK
  refine wpList_step (fun K hK => ?_); go_simp; refine hK _ _ ?_; clear hK
  refine wpList_step (fun K hK => ?_); go_simp; refine hK _ _ ?_; clear hK
  refine wpList_step (fun K hK => ?_); go_simp; refine hK _ _ ?_; clear hK
  refine wpList_nil ?_
  go_wp2_with fail
  go_ret
  exact ⟨rfl, hB.out⟩

set_option maxHeartbeats 16000000 in
theorem sm_4 (c1 c2 : Array Value) (m n : Msg) (LA : Option Addr) (lc : Nat) (TA : Option Addr) (tc : Nat) (LB : Option Addr) (ld : Nat) (TB : Option Addr) (td : Nat) (w : World) (hM : MsgIn w c1 m LA lc TA tc) (hN : MsgIn w c2 n LB ld TB td) (e0 : m.kind = n.kind) (e1 : m.session = n.session) (e2 : m.from_ = n.from_) (e3 : m.to_ = n.to_) (e4 : m.pair ≠ n.pair) : Calls Tryd.prog 13 #[.agg c1, .agg c2] w fun e w' => e = .returned (.bool false) ∧ Below w.heap.size w w' := by
  have hX : ((w.alloc (.cells c1 36)).alloc (.cells c2 36)).heap[w.heap.size]? = some (.cells c1 36 (0, 0)) := by
    rw [heap_alloc?, if_neg (by simp)]; exact heap_alloc_new w _
  have hY : ((w.alloc (.cells c1 36)).alloc (.cells c2 36)).heap[w.heap.size + 1]? = some (.cells c2 36 (0, 0)) := by
    rw [heap_alloc?, if_pos (by simp)]
  have hB : Below w.heap.size w ((w.alloc (.cells c1 36)).alloc (.cells c2 36)) := later (boxed _ _) (boxed _ _)
  have h1 := hM.cells
  have h2 := hN.cells
  replace hM := Lib.hid (hM.on hB)
  replace hN := Lib.hid (hN.on hB)
  replace hB := Lib.hid hB
  replace e0 := Lib.hid e0
  replace e1 := Lib.hid e1
  replace e2 := Lib.hid e2
  replace e3 := Lib.hid e3
  replace e4 := Lib.hid e4
  have k0 := cell_of hX h1.kind
  have j0 := cell_of hY h2.kind
  have f0 : (m.kind == n.kind) = true := beq_iff_eq.2 e0.out
  have x1 := Lib.hid (rowAt_of hX h1.session)
  have y1 := Lib.hid (rowAt_of hY h2.session)
  have i1 : (Tryd.prog.info? 26).map (·.size) = some (arrB m.session).size := by rw [show (arrB m.session).size = 32 from by simp [arrB, h1.session.1]]; kernel_rfl
  have g1 : (Tryd.prog.info? 26).map (·.size) = some (arrB n.session).size := by rw [show (arrB n.session).size = 32 from by simp [arrB, h2.session.1]]; kernel_rfl
  have q1 : ∀ w, (binOp .eql 26 (.agg (arrB m.session)) (.agg (arrB n.session))).run Tryd.prog w = .ok (.bool true) w := fun w => by rw [eqlG 26 32 Tryd.underlying26 m.session n.session h1.session.1 h2.session.1]; rw [beq_iff_eq.2 e1.out]
  have k33 := cell_of hX h1.from_
  have j33 := cell_of hY h2.from_
  have f2 : (m.from_ == n.from_) = true := beq_iff_eq.2 e2.out
  have k34 := cell_of hX h1.to_
  have j34 := cell_of hY h2.to_
  have f3 : (m.to_ == n.to_) = true := beq_iff_eq.2 e3.out
  have x4 := Lib.hid (pairAt_of hX h1)
  have y4 := Lib.hid (pairAt_of hY h2)
  have pm : PairOk m.pair := ⟨h1.hid.1, h1.bnd.1⟩
  have pn : PairOk n.pair := ⟨h2.hid.1, h2.bnd.1⟩
  have i4 : (Tryd.prog.info? 29).map (·.size) = some (pairA m.pair).size := by rw [pairA_size pm]; kernel_rfl
  have g4 : (Tryd.prog.info? 29).map (·.size) = some (pairA n.pair).size := by rw [pairA_size pn]; kernel_rfl
  have q4 : ∀ w, (binOp .eql 29 (.agg (pairA m.pair)) (.agg (pairA n.pair))).run Tryd.prog w = .ok (.bool false) w := fun w => by rw [eqlPG m.pair n.pair pm pn w]; rw [decide_eq_false e4.out]
  clear pm pn
  clear hX hY h1 h2
  go_enter Tryd.func13, Tryd.ntmps13
  go_upto_region 1 with fail
  generalize ((w.alloc (.cells c1 36)).alloc (.cells c2 36)) = W at *
  go_step
  refine wpList_step (fun K hK => ?_); go_simp; refine hK _ _ ?_; clear hK
  refine wpList_step (fun K hK => ?_); go_simp; refine hK _ _ ?_; clear hK
  refine wpList_step (fun K hK => ?_); go_simp; refine hK _ _ ?_; clear hK
  refine wpList_step (fun K hK => ?_); go_simp; refine hK _ _ ?_; clear hK
  refine wpList_step (fun K hK => ?_); go_simp; refine hK _ _ ?_; clear hK
  refine wpList_step (fun K hK => ?_); go_simp; refine hK _ _ ?_; clear hK
  refine wpList_step (fun K hK => ?_); go_simp; refine hK _ _ ?_; clear hK
  apply wpList_loadG (hc := x1.out) (hu := Tryd.underlying26) (hi := i1); (case ho => exact rfl); (case hx => exact rfl); (case hd => rfl); (case hw => simp [Region.wanted, yielded])
  refine wpList_step (fun K hK => ?_); go_simp; refine hK _ _ ?_; clear hK
  apply wpList_loadG (hc := y1.out) (hu := Tryd.underlying26) (hi := g1); (case ho => exact rfl); (case hx => exact rfl); (case hd => rfl); (case hw => simp [Region.wanted, yielded])
  refine wpList_step (fun K hK => ?_); go_simp; refine hK _ _ ?_; clear hK
  refine wpList_step (fun K hK => ?_); go_simp; refine hK _ _ ?_; clear hK
  refine wpList_step (fun K hK => ?_); go_simp; refine hK _ _ ?_; clear hK
  refine wpList_step (fun K hK => ?_); go_simp; refine hK _ _ ?_; clear hK
  refine wpList_step (fun K hK => ?_); go_simp; refine hK _ _ ?_; clear hK
  refine wpList_step (fun K hK => ?_); go_simp; refine hK _ _ ?_; clear hK
  refine wpList_step (fun K hK => ?_); go_simp; refine hK _ _ ?_; clear hK
  refine wpList_step (fun K hK => ?_); go_simp; refine hK _ _ ?_; clear hK
  refine wpList_step (fun K hK => ?_); go_simp; refine hK _ _ ?_; clear hK
  refine wpList_step (fun K hK => ?_); go_simp; refine hK _ _ ?_; clear hK
  refine wpList_step (fun K hK => ?_); go_simp; refine hK _ _ ?_; clear hK
  refine wpList_step (fun K hK => ?_); go_simp; refine hK _ _ ?_; clear hK
  refine wpList_step (fun K hK => ?_); go_simp; refine hK _ _ ?_; clear hK
  refine wpList_step (fun K hK => ?_); go_simp; refine hK _ _ ?_; clear hK
  refine wpList_step (fun K hK => ?_); go_simp; refine hK _ _ ?_; clear hK
  refine wpList_step (fun K hK => ?_); go_simp; refine hK _ _ ?_; clear hK
  refine wpList_step (fun K hK => ?_); go_simp; refine hK _ _ ?_; clear hK
  refine wpList_step (fun K hK => ?_); go_simp; refine hK _ _ ?_; clear hK
  apply wpList_loadG (hc := x4.out) (hu := Tryd.underlying29) (hi := i4); (case ho => exact rfl); (case hx => exact rfl); (case hd => rfl); (case hw => simp [Region.wanted, yielded])
  refine wpList_step (fun K hK => ?_); go_simp; refine hK _ _ ?_; clear hK
  apply wpList_loadG (hc := y4.out) (hu := Tryd.underlying29) (hi := g4); (case ho => exact rfl); (case hx => exact rfl); (case hd => rfl); (case hw => simp [Region.wanted, yielded])
  refine wpList_step (fun K hK => ?_); go_simp; refine hK _ _ ?_; clear hK
  refine wpList_step (fun K hK => ?_); go_simp; refine hK _ _ ?_; clear hK
  refine wpList_step (fun K hK => ?_); go_simp; refine hK _ _ ?_; clear hK
  refine wpList_step (fun K hK => ?_); go_simp; refine hK _ _ ?_; clear hK
  refine wpList_step (fun K hK => ?_); go_simp; refine hK _ _ ?_; clear hK
  refine wpList_step (fun K hK => ?_); go_simp; refine hK _ _ ?_; clear hK
  refine wpList_step (fun K hK => ?_); go_simp; refine hK _ _ ?_; clear hK
  refine wpList_step (fun K hK => ?_); go_simp; refine hK _ _ ?_; clear hK
  refine wpList_step (fun K hK => ?_); go_simp; refine hK _ _ ?_; clear hK
  refine wpList_step (fun K hK => ?_); go_simp; refine hK _ _ ?_; clear hK
  refine wpList_step (fun K hK => ?_); go_simp; refine hK _ _ ?_; clear hK
  refine wpList_step (fun K hK => ?_); go_simp; refine hK _ _ ?_; clear hK
  refine wpList_step (fun K hK => ?_); go_simp; refine hK _ _ ?_; clear hK
  refine wpList_step (fun K hK => ?_); go_simp; refine hK _ _ ?_; clear hK
  refine wpList_step (fun K hK => ?_); go_simp; refine hK _ _ ?_; clear hK
  refine wpList_step (fun K hK => ?_); go_simp; refine hK _ _ ?_; clear hK
  refine wpList_step (fun K hK => ?_); go_simp; refine hK _ _ ?_; clear hK
  refine wpList_step (fun K hK => ?_); go_simp; refine hK _ _ ?_; clear hK
  refine wpList_step (fun K hK => ?_); go_simp; refine hK _ _ ?_; clear hK
  refine wpList_step (fun K hK => ?_); go_simp; refine hK _ _ ?_; clear hK
  refine wpList_step (fun K hK => ?_); go_simp; refine hK _ _ ?_; clear hK
  refine wpList_step (fun K hK => ?_); go_simp; refine hK _ _ ?_; clear hK
  refine wpList_step (fun K hK => ?_); go_simp; refine hK _ _ ?_; clear hK
  refine wpList_step (fun K hK => ?_); go_simp; refine hK _ _ ?_; clear hK
  refine wpList_step (fun K hK => ?_); go_simp; refine hK _ _ ?_; clear hK
  refine wpList_step (fun K hK => ?_); go_simp; refine hK _ _ ?_; clear hK
  refine wpList_step (fun K hK => ?_); go_simp; refine hK _ _ ?_; clear hK
  refine wpList_step (fun K hK => ?_); go_simp; refine hK _ _ ?_; clear hK
  refine wpList_step (fun K hK => ?_); go_simp; refine hK _ _ ?_; clear hK
  refine wpList_step (fun K hK => ?_); go_simp; refine hK _ _ ?_; clear hK
  refine wpList_step (fun K hK => ?_); go_simp; refine hK _ _ ?_; clear hK
  refine wpList_step (fun K hK => ?_); go_simp; refine hK _ _ ?_; clear hK
  refine wpList_step (fun K hK => ?_); go_simp; refine hK _ _ ?_; clear hK
  refine wpList_step (fun K hK => ?_); go_simp; refine hK _ _ ?_; clear hK
  refine wpList_step (fun K hK => ?_); go_simp; refine hK _ _ ?_; clear hK
  refine wpList_step (fun K hK => ?_); go_simp; refine hK _ _ ?_; clear hK
  refine wpList_step (fun K hK => ?_); go_simp; refine hK _ _ ?_; clear hK
  refine wpList_step (fun K hK => ?_); go_simp; refine hK _ _ ?_; clear hK
  refine wpList_step (fun K hK => ?_); go_simp; refine hK _ _ ?_; clear hK
  refine wpList_step (fun K hK => ?_); go_simp; refine hK _ _ ?_; clear hK
  refine wpList_step (fun K hK => ?_); go_simp; refine hK _ _ ?_; clear hK
  refine wpList_step (fun K hK => ?_); go_simp; refine hK _ _ ?_; clear hK
  refine wpList_step (fun K hK => ?_); go_simp; refine hK _ _ ?_; clear hK
  refine wpList_step (fun K hK => ?_); go_simp; refine hK _ _ ?_; clear hK
  refine wpList_step (fun K hK => ?_); go_simp; refine hK _ _ ?_; clear hK
  refine wpList_nil ?_
  go_wp2_with fail
  go_ret
  exact ⟨rfl, hB.out⟩

set_option maxHeartbeats 16000000 in
theorem sm_5 (c1 c2 : Array Value) (m n : Msg) (LA : Option Addr) (lc : Nat) (TA : Option Addr) (tc : Nat) (LB : Option Addr) (ld : Nat) (TB : Option Addr) (td : Nat) (w : World) (hM : MsgIn w c1 m LA lc TA tc) (hN : MsgIn w c2 n LB ld TB td) (e0 : m.kind = n.kind) (e1 : m.session = n.session) (e2 : m.from_ = n.from_) (e3 : m.to_ = n.to_) (e4 : m.pair = n.pair) (e5 : m.list ≠ n.list) : Calls Tryd.prog 13 #[.agg c1, .agg c2] w fun e w' => e = .returned (.bool false) ∧ Below w.heap.size w w' := by
  have hX : ((w.alloc (.cells c1 36)).alloc (.cells c2 36)).heap[w.heap.size]? = some (.cells c1 36 (0, 0)) := by
    rw [heap_alloc?, if_neg (by simp)]; exact heap_alloc_new w _
  have hY : ((w.alloc (.cells c1 36)).alloc (.cells c2 36)).heap[w.heap.size + 1]? = some (.cells c2 36 (0, 0)) := by
    rw [heap_alloc?, if_pos (by simp)]
  have hB : Below w.heap.size w ((w.alloc (.cells c1 36)).alloc (.cells c2 36)) := later (boxed _ _) (boxed _ _)
  have h1 := hM.cells
  have h2 := hN.cells
  replace hM := Lib.hid (hM.on hB)
  replace hN := Lib.hid (hN.on hB)
  replace hB := Lib.hid hB
  replace e0 := Lib.hid e0
  replace e1 := Lib.hid e1
  replace e2 := Lib.hid e2
  replace e3 := Lib.hid e3
  replace e4 := Lib.hid e4
  replace e5 := Lib.hid e5
  have k0 := cell_of hX h1.kind
  have j0 := cell_of hY h2.kind
  have f0 : (m.kind == n.kind) = true := beq_iff_eq.2 e0.out
  have x1 := Lib.hid (rowAt_of hX h1.session)
  have y1 := Lib.hid (rowAt_of hY h2.session)
  have i1 : (Tryd.prog.info? 26).map (·.size) = some (arrB m.session).size := by rw [show (arrB m.session).size = 32 from by simp [arrB, h1.session.1]]; kernel_rfl
  have g1 : (Tryd.prog.info? 26).map (·.size) = some (arrB n.session).size := by rw [show (arrB n.session).size = 32 from by simp [arrB, h2.session.1]]; kernel_rfl
  have q1 : ∀ w, (binOp .eql 26 (.agg (arrB m.session)) (.agg (arrB n.session))).run Tryd.prog w = .ok (.bool true) w := fun w => by rw [eqlG 26 32 Tryd.underlying26 m.session n.session h1.session.1 h2.session.1]; rw [beq_iff_eq.2 e1.out]
  have k33 := cell_of hX h1.from_
  have j33 := cell_of hY h2.from_
  have f2 : (m.from_ == n.from_) = true := beq_iff_eq.2 e2.out
  have k34 := cell_of hX h1.to_
  have j34 := cell_of hY h2.to_
  have f3 : (m.to_ == n.to_) = true := beq_iff_eq.2 e3.out
  have x4 := Lib.hid (pairAt_of hX h1)
  have y4 := Lib.hid (pairAt_of hY h2)
  have pm : PairOk m.pair := ⟨h1.hid.1, h1.bnd.1⟩
  have pn : PairOk n.pair := ⟨h2.hid.1, h2.bnd.1⟩
  have i4 : (Tryd.prog.info? 29).map (·.size) = some (pairA m.pair).size := by rw [pairA_size pm]; kernel_rfl
  have g4 : (Tryd.prog.info? 29).map (·.size) = some (pairA n.pair).size := by rw [pairA_size pn]; kernel_rfl
  have q4 : ∀ w, (binOp .eql 29 (.agg (pairA m.pair)) (.agg (pairA n.pair))).run Tryd.prog w = .ok (.bool true) w := fun w => by rw [eqlPG m.pair n.pair pm pn w]; rw [decide_eq_true e4.out]
  clear pm pn
  have k100 := cell_of hX h1.list
  have j100 := cell_of hY h2.list
  clear hX hY h1 h2
  go_enter Tryd.func13, Tryd.ntmps13
  go_upto_region 1 with fail
  generalize ((w.alloc (.cells c1 36)).alloc (.cells c2 36)) = W at *
  go_step
  refine wpList_step (fun K hK => ?_); go_simp; refine hK _ _ ?_; clear hK
  refine wpList_step (fun K hK => ?_); go_simp; refine hK _ _ ?_; clear hK
  refine wpList_step (fun K hK => ?_); go_simp; refine hK _ _ ?_; clear hK
  refine wpList_step (fun K hK => ?_); go_simp; refine hK _ _ ?_; clear hK
  refine wpList_step (fun K hK => ?_); go_simp; refine hK _ _ ?_; clear hK
  refine wpList_step (fun K hK => ?_); go_simp; refine hK _ _ ?_; clear hK
  refine wpList_step (fun K hK => ?_); go_simp; refine hK _ _ ?_; clear hK
  apply wpList_loadG (hc := x1.out) (hu := Tryd.underlying26) (hi := i1); (case ho => exact rfl); (case hx => exact rfl); (case hd => rfl); (case hw => simp [Region.wanted, yielded])
  refine wpList_step (fun K hK => ?_); go_simp; refine hK _ _ ?_; clear hK
  apply wpList_loadG (hc := y1.out) (hu := Tryd.underlying26) (hi := g1); (case ho => exact rfl); (case hx => exact rfl); (case hd => rfl); (case hw => simp [Region.wanted, yielded])
  refine wpList_step (fun K hK => ?_); go_simp; refine hK _ _ ?_; clear hK
  refine wpList_step (fun K hK => ?_); go_simp; refine hK _ _ ?_; clear hK
  refine wpList_step (fun K hK => ?_); go_simp; refine hK _ _ ?_; clear hK
  refine wpList_step (fun K hK => ?_); go_simp; refine hK _ _ ?_; clear hK
  refine wpList_step (fun K hK => ?_); go_simp; refine hK _ _ ?_; clear hK
  refine wpList_step (fun K hK => ?_); go_simp; refine hK _ _ ?_; clear hK
  refine wpList_step (fun K hK => ?_); go_simp; refine hK _ _ ?_; clear hK
  refine wpList_step (fun K hK => ?_); go_simp; refine hK _ _ ?_; clear hK
  refine wpList_step (fun K hK => ?_); go_simp; refine hK _ _ ?_; clear hK
  refine wpList_step (fun K hK => ?_); go_simp; refine hK _ _ ?_; clear hK
  refine wpList_step (fun K hK => ?_); go_simp; refine hK _ _ ?_; clear hK
  refine wpList_step (fun K hK => ?_); go_simp; refine hK _ _ ?_; clear hK
  refine wpList_step (fun K hK => ?_); go_simp; refine hK _ _ ?_; clear hK
  refine wpList_step (fun K hK => ?_); go_simp; refine hK _ _ ?_; clear hK
  refine wpList_step (fun K hK => ?_); go_simp; refine hK _ _ ?_; clear hK
  refine wpList_step (fun K hK => ?_); go_simp; refine hK _ _ ?_; clear hK
  refine wpList_step (fun K hK => ?_); go_simp; refine hK _ _ ?_; clear hK
  refine wpList_step (fun K hK => ?_); go_simp; refine hK _ _ ?_; clear hK
  apply wpList_loadG (hc := x4.out) (hu := Tryd.underlying29) (hi := i4); (case ho => exact rfl); (case hx => exact rfl); (case hd => rfl); (case hw => simp [Region.wanted, yielded])
  refine wpList_step (fun K hK => ?_); go_simp; refine hK _ _ ?_; clear hK
  apply wpList_loadG (hc := y4.out) (hu := Tryd.underlying29) (hi := g4); (case ho => exact rfl); (case hx => exact rfl); (case hd => rfl); (case hw => simp [Region.wanted, yielded])
  refine wpList_step (fun K hK => ?_); go_simp; refine hK _ _ ?_; clear hK
  refine wpList_step (fun K hK => ?_); go_simp; refine hK _ _ ?_; clear hK
  refine wpList_step (fun K hK => ?_); go_simp; refine hK _ _ ?_; clear hK
  refine wpList_step (fun K hK => ?_); go_simp; refine hK _ _ ?_; clear hK
  refine wpList_step (fun K hK => ?_); go_simp; refine hK _ _ ?_; clear hK
  refine wpList_step (fun K hK => ?_); go_simp; refine hK _ _ ?_; clear hK
  refine wpList_step (fun K hK => ?_); go_simp; refine hK _ _ ?_; clear hK
  have hc := sameCommitments_any LA LB lc ld m.list n.list W hM.out.list hN.out.list hM.out.pok hN.out.pok hM.out.lsz hN.out.lsz
  rw [decide_eq_false e5.out] at hc
  replace hc := Lib.hid hc
  refine wpList_step (fun K hK => ?_); go_simp
  go_at_call 48
  refine hc.out.mono ?_
  rintro e w7 ⟨rfl, a5, hw5⟩
  refine hK _ _ ?_
  clear hK
  replace hM : Hid (MsgIn w7 c1 m LA lc TA tc) := Lib.hid (by rw [hw5]; exact (hM.out.on (below_drewN (Below.refl _ _) _)))
  replace hN : Hid (MsgIn w7 c2 n LB ld TB td) := Lib.hid (by rw [hw5]; exact (hN.out.on (below_drewN (Below.refl _ _) _)))
  replace hB : Hid (Below w.heap.size w w7) := Lib.hid (by rw [hw5]; exact below_drewN hB.out _)
  replace hw5 := Lib.hid hw5
  refine wpList_step (fun K hK => ?_); go_simp; refine hK _ _ ?_; clear hK
  refine wpList_step (fun K hK => ?_); go_simp; refine hK _ _ ?_; clear hK
  refine wpList_step (fun K hK => ?_); go_simp; refine hK _ _ ?_; clear hK
  refine wpList_step (fun K hK => ?_); go_simp; refine hK _ _ ?_; clear hK
  refine wpList_step (fun K hK => ?_); go_simp; refine hK _ _ ?_; clear hK
  refine wpList_step (fun K hK => ?_); go_simp; refine hK _ _ ?_; clear hK
  refine wpList_step (fun K hK => ?_); go_simp; refine hK _ _ ?_; clear hK
  refine wpList_step (fun K hK => ?_); go_simp; refine hK _ _ ?_; clear hK
  refine wpList_step (fun K hK => ?_); go_simp; refine hK _ _ ?_; clear hK
  refine wpList_step (fun K hK => ?_); go_simp; refine hK _ _ ?_; clear hK
  refine wpList_step (fun K hK => ?_); go_simp; refine hK _ _ ?_; clear hK
  refine wpList_step (fun K hK => ?_); go_simp; refine hK _ _ ?_; clear hK
  refine wpList_step (fun K hK => ?_); go_simp; refine hK _ _ ?_; clear hK
  refine wpList_step (fun K hK => ?_); go_simp; refine hK _ _ ?_; clear hK
  refine wpList_step (fun K hK => ?_); go_simp; refine hK _ _ ?_; clear hK
  refine wpList_step (fun K hK => ?_); go_simp; refine hK _ _ ?_; clear hK
  refine wpList_step (fun K hK => ?_); go_simp; refine hK _ _ ?_; clear hK
  refine wpList_step (fun K hK => ?_); go_simp; refine hK _ _ ?_; clear hK
  refine wpList_step (fun K hK => ?_); go_simp; refine hK _ _ ?_; clear hK
  refine wpList_step (fun K hK => ?_); go_simp; refine hK _ _ ?_; clear hK
  refine wpList_step (fun K hK => ?_); go_simp; refine hK _ _ ?_; clear hK
  refine wpList_step (fun K hK => ?_); go_simp; refine hK _ _ ?_; clear hK
  refine wpList_step (fun K hK => ?_); go_simp; refine hK _ _ ?_; clear hK
  refine wpList_step (fun K hK => ?_); go_simp; refine hK _ _ ?_; clear hK
  refine wpList_step (fun K hK => ?_); go_simp; refine hK _ _ ?_; clear hK
  refine wpList_step (fun K hK => ?_); go_simp; refine hK _ _ ?_; clear hK
  refine wpList_step (fun K hK => ?_); go_simp; refine hK _ _ ?_; clear hK
  refine wpList_step (fun K hK => ?_); go_simp; refine hK _ _ ?_; clear hK
  refine wpList_step (fun K hK => ?_); go_simp; refine hK _ _ ?_; clear hK
  refine wpList_step (fun K hK => ?_); go_simp; refine hK _ _ ?_; clear hK
  refine wpList_step (fun K hK => ?_); go_simp; refine hK _ _ ?_; clear hK
  refine wpList_step (fun K hK => ?_); go_simp; refine hK _ _ ?_; clear hK
  refine wpList_step (fun K hK => ?_); go_simp; refine hK _ _ ?_; clear hK
  refine wpList_step (fun K hK => ?_); go_simp; refine hK _ _ ?_; clear hK
  refine wpList_step (fun K hK => ?_); go_simp; refine hK _ _ ?_; clear hK
  refine wpList_step (fun K hK => ?_); go_simp; refine hK _ _ ?_; clear hK
  refine wpList_step (fun K hK => ?_); go_simp; refine hK _ _ ?_; clear hK
  refine wpList_nil ?_
  go_wp2_with fail
  go_ret
  exact ⟨rfl, hB.out⟩

set_option maxHeartbeats 16000000 in
theorem sm_6 (c1 c2 : Array Value) (m n : Msg) (LA : Option Addr) (lc : Nat) (TA : Option Addr) (tc : Nat) (LB : Option Addr) (ld : Nat) (TB : Option Addr) (td : Nat) (w : World) (hM : MsgIn w c1 m LA lc TA tc) (hN : MsgIn w c2 n LB ld TB td) (e0 : m.kind = n.kind) (e1 : m.session = n.session) (e2 : m.from_ = n.from_) (e3 : m.to_ = n.to_) (e4 : m.pair = n.pair) (e5 : m.list = n.list) (e6 : m.text ≠ n.text) : Calls Tryd.prog 13 #[.agg c1, .agg c2] w fun e w' => e = .returned (.bool false) ∧ Below w.heap.size w w' := by
  have hX : ((w.alloc (.cells c1 36)).alloc (.cells c2 36)).heap[w.heap.size]? = some (.cells c1 36 (0, 0)) := by
    rw [heap_alloc?, if_neg (by simp)]; exact heap_alloc_new w _
  have hY : ((w.alloc (.cells c1 36)).alloc (.cells c2 36)).heap[w.heap.size + 1]? = some (.cells c2 36 (0, 0)) := by
    rw [heap_alloc?, if_pos (by simp)]
  have hB : Below w.heap.size w ((w.alloc (.cells c1 36)).alloc (.cells c2 36)) := later (boxed _ _) (boxed _ _)
  have h1 := hM.cells
  have h2 := hN.cells
  replace hM := Lib.hid (hM.on hB)
  replace hN := Lib.hid (hN.on hB)
  replace hB := Lib.hid hB
  replace e0 := Lib.hid e0
  replace e1 := Lib.hid e1
  replace e2 := Lib.hid e2
  replace e3 := Lib.hid e3
  replace e4 := Lib.hid e4
  replace e5 := Lib.hid e5
  replace e6 := Lib.hid e6
  have k0 := cell_of hX h1.kind
  have j0 := cell_of hY h2.kind
  have f0 : (m.kind == n.kind) = true := beq_iff_eq.2 e0.out
  have x1 := Lib.hid (rowAt_of hX h1.session)
  have y1 := Lib.hid (rowAt_of hY h2.session)
  have i1 : (Tryd.prog.info? 26).map (·.size) = some (arrB m.session).size := by rw [show (arrB m.session).size = 32 from by simp [arrB, h1.session.1]]; kernel_rfl
  have g1 : (Tryd.prog.info? 26).map (·.size) = some (arrB n.session).size := by rw [show (arrB n.session).size = 32 from by simp [arrB, h2.session.1]]; kernel_rfl
  have q1 : ∀ w, (binOp .eql 26 (.agg (arrB m.session)) (.agg (arrB n.session))).run Tryd.prog w = .ok (.bool true) w := fun w => by rw [eqlG 26 32 Tryd.underlying26 m.session n.session h1.session.1 h2.session.1]; rw [beq_iff_eq.2 e1.out]
  have k33 := cell_of hX h1.from_
  have j33 := cell_of hY h2.from_
  have f2 : (m.from_ == n.from_) = true := beq_iff_eq.2 e2.out
  have k34 := cell_of hX h1.to_
  have j34 := cell_of hY h2.to_
  have f3 : (m.to_ == n.to_) = true := beq_iff_eq.2 e3.out
  have x4 := Lib.hid (pairAt_of hX h1)
  have y4 := Lib.hid (pairAt_of hY h2)
  have pm : PairOk m.pair := ⟨h1.hid.1, h1.bnd.1⟩
  have pn : PairOk n.pair := ⟨h2.hid.1, h2.bnd.1⟩
  have i4 : (Tryd.prog.info? 29).map (·.size) = some (pairA m.pair).size := by rw [pairA_size pm]; kernel_rfl
  have g4 : (Tryd.prog.info? 29).map (·.size) = some (pairA n.pair).size := by rw [pairA_size pn]; kernel_rfl
  have q4 : ∀ w, (binOp .eql 29 (.agg (pairA m.pair)) (.agg (pairA n.pair))).run Tryd.prog w = .ok (.bool true) w := fun w => by rw [eqlPG m.pair n.pair pm pn w]; rw [decide_eq_true e4.out]
  clear pm pn
  have k100 := cell_of hX h1.list
  have j100 := cell_of hY h2.list
  have k101 := cell_of hX h1.text
  have j101 := cell_of hY h2.text
  clear hX hY h1 h2
  go_enter Tryd.func13, Tryd.ntmps13
  go_upto_region 1 with fail
  generalize ((w.alloc (.cells c1 36)).alloc (.cells c2 36)) = W at *
  go_step
  refine wpList_step (fun K hK => ?_); go_simp; refine hK _ _ ?_; clear hK
  refine wpList_step (fun K hK => ?_); go_simp; refine hK _ _ ?_; clear hK
  refine wpList_step (fun K hK => ?_); go_simp; refine hK _ _ ?_; clear hK
  refine wpList_step (fun K hK => ?_); go_simp; refine hK _ _ ?_; clear hK
  refine wpList_step (fun K hK => ?_); go_simp; refine hK _ _ ?_; clear hK
  refine wpList_step (fun K hK => ?_); go_simp; refine hK _ _ ?_; clear hK
  refine wpList_step (fun K hK => ?_); go_simp; refine hK _ _ ?_; clear hK
  apply wpList_loadG (hc := x1.out) (hu := Tryd.underlying26) (hi := i1); (case ho => exact rfl); (case hx => exact rfl); (case hd => rfl); (case hw => simp [Region.wanted, yielded])
  refine wpList_step (fun K hK => ?_); go_simp; refine hK _ _ ?_; clear hK
  apply wpList_loadG (hc := y1.out) (hu := Tryd.underlying26) (hi := g1); (case ho => exact rfl); (case hx => exact rfl); (case hd => rfl); (case hw => simp [Region.wanted, yielded])
  refine wpList_step (fun K hK => ?_); go_simp; refine hK _ _ ?_; clear hK
  refine wpList_step (fun K hK => ?_); go_simp; refine hK _ _ ?_; clear hK
  refine wpList_step (fun K hK => ?_); go_simp; refine hK _ _ ?_; clear hK
  refine wpList_step (fun K hK => ?_); go_simp; refine hK _ _ ?_; clear hK
  refine wpList_step (fun K hK => ?_); go_simp; refine hK _ _ ?_; clear hK
  refine wpList_step (fun K hK => ?_); go_simp; refine hK _ _ ?_; clear hK
  refine wpList_step (fun K hK => ?_); go_simp; refine hK _ _ ?_; clear hK
  refine wpList_step (fun K hK => ?_); go_simp; refine hK _ _ ?_; clear hK
  refine wpList_step (fun K hK => ?_); go_simp; refine hK _ _ ?_; clear hK
  refine wpList_step (fun K hK => ?_); go_simp; refine hK _ _ ?_; clear hK
  refine wpList_step (fun K hK => ?_); go_simp; refine hK _ _ ?_; clear hK
  refine wpList_step (fun K hK => ?_); go_simp; refine hK _ _ ?_; clear hK
  refine wpList_step (fun K hK => ?_); go_simp; refine hK _ _ ?_; clear hK
  refine wpList_step (fun K hK => ?_); go_simp; refine hK _ _ ?_; clear hK
  refine wpList_step (fun K hK => ?_); go_simp; refine hK _ _ ?_; clear hK
  refine wpList_step (fun K hK => ?_); go_simp; refine hK _ _ ?_; clear hK
  refine wpList_step (fun K hK => ?_); go_simp; refine hK _ _ ?_; clear hK
  refine wpList_step (fun K hK => ?_); go_simp; refine hK _ _ ?_; clear hK
  apply wpList_loadG (hc := x4.out) (hu := Tryd.underlying29) (hi := i4); (case ho => exact rfl); (case hx => exact rfl); (case hd => rfl); (case hw => simp [Region.wanted, yielded])
  refine wpList_step (fun K hK => ?_); go_simp; refine hK _ _ ?_; clear hK
  apply wpList_loadG (hc := y4.out) (hu := Tryd.underlying29) (hi := g4); (case ho => exact rfl); (case hx => exact rfl); (case hd => rfl); (case hw => simp [Region.wanted, yielded])
  refine wpList_step (fun K hK => ?_); go_simp; refine hK _ _ ?_; clear hK
  refine wpList_step (fun K hK => ?_); go_simp; refine hK _ _ ?_; clear hK
  refine wpList_step (fun K hK => ?_); go_simp; refine hK _ _ ?_; clear hK
  refine wpList_step (fun K hK => ?_); go_simp; refine hK _ _ ?_; clear hK
  refine wpList_step (fun K hK => ?_); go_simp; refine hK _ _ ?_; clear hK
  refine wpList_step (fun K hK => ?_); go_simp; refine hK _ _ ?_; clear hK
  refine wpList_step (fun K hK => ?_); go_simp; refine hK _ _ ?_; clear hK
  have hc := sameCommitments_any LA LB lc ld m.list n.list W hM.out.list hN.out.list hM.out.pok hN.out.pok hM.out.lsz hN.out.lsz
  rw [decide_eq_true e5.out] at hc
  replace hc := Lib.hid hc
  refine wpList_step (fun K hK => ?_); go_simp
  go_at_call 48
  refine hc.out.mono ?_
  rintro e w7 ⟨rfl, a5, hw5⟩
  refine hK _ _ ?_
  clear hK
  replace k101 : w7.cell? ⟨w.heap.size, 101, none⟩ = some (.slice TA m.text.length tc) := by rw [hw5]; exact k101
  replace j101 : w7.cell? ⟨w.heap.size + 1, 101, none⟩ = some (.slice TB n.text.length td) := by rw [hw5]; exact j101
  replace hM : Hid (MsgIn w7 c1 m LA lc TA tc) := Lib.hid (by rw [hw5]; exact (hM.out.on (below_drewN (Below.refl _ _) _)))
  replace hN : Hid (MsgIn w7 c2 n LB ld TB td) := Lib.hid (by rw [hw5]; exact (hN.out.on (below_drewN (Below.refl _ _) _)))
  replace hB : Hid (Below w.heap.size w w7) := Lib.hid (by rw [hw5]; exact below_drewN hB.out _)
  replace hw5 := Lib.hid hw5
  refine wpList_step (fun K hK => ?_); go_simp; refine hK _ _ ?_; clear hK
  refine wpList_step (fun K hK => ?_); go_simp; refine hK _ _ ?_; clear hK
  refine wpList_step (fun K hK => ?_); go_simp; refine hK _ _ ?_; clear hK
  refine wpList_step (fun K hK => ?_); go_simp; refine hK _ _ ?_; clear hK
  refine wpList_step (fun K hK => ?_); go_simp; refine hK _ _ ?_; clear hK
  refine wpList_step (fun K hK => ?_); go_simp; refine hK _ _ ?_; clear hK
  have hc := sameBytes_any TA TB tc td m.text n.text w7 hM.out.text hN.out.text hM.out.tsz hN.out.tsz
  rw [decide_eq_false e6.out] at hc
  replace hc := Lib.hid hc
  refine wpList_step (fun K hK => ?_); go_simp
  go_at_call 19
  refine hc.out.mono ?_
  rintro e w8 ⟨rfl, a6, hw6⟩
  refine hK _ _ ?_
  clear hK
  replace hM : Hid (MsgIn w8 c1 m LA lc TA tc) := Lib.hid (by rw [hw6]; exact (hM.out.on (below_drewN (Below.refl _ _) _)))
  replace hN : Hid (MsgIn w8 c2 n LB ld TB td) := Lib.hid (by rw [hw6]; exact (hN.out.on (below_drewN (Below.refl _ _) _)))
  replace hB : Hid (Below w.heap.size w w8) := Lib.hid (by rw [hw6]; exact below_drewN hB.out _)
  replace hw6 := Lib.hid hw6
  refine wpList_step (fun K hK => ?_); go_simp; refine hK _ _ ?_; clear hK
  refine wpList_step (fun K hK => ?_); go_simp; refine hK _ _ ?_; clear hK
  refine wpList_step (fun K hK => ?_); go_simp; refine hK _ _ ?_; clear hK
  refine wpList_step (fun K hK => ?_); go_simp; refine hK _ _ ?_; clear hK
  refine wpList_step (fun K hK => ?_); go_simp; refine hK _ _ ?_; clear hK
  refine wpList_step (fun K hK => ?_); go_simp; refine hK _ _ ?_; clear hK
  refine wpList_step (fun K hK => ?_); go_simp; refine hK _ _ ?_; clear hK
  refine wpList_step (fun K hK => ?_); go_simp; refine hK _ _ ?_; clear hK
  refine wpList_step (fun K hK => ?_); go_simp; refine hK _ _ ?_; clear hK
  refine wpList_step (fun K hK => ?_); go_simp; refine hK _ _ ?_; clear hK
  refine wpList_step (fun K hK => ?_); go_simp; refine hK _ _ ?_; clear hK
  refine wpList_step (fun K hK => ?_); go_simp; refine hK _ _ ?_; clear hK
  refine wpList_step (fun K hK => ?_); go_simp; refine hK _ _ ?_; clear hK
  refine wpList_step (fun K hK => ?_); go_simp; refine hK _ _ ?_; clear hK
  refine wpList_step (fun K hK => ?_); go_simp; refine hK _ _ ?_; clear hK
  refine wpList_step (fun K hK => ?_); go_simp; refine hK _ _ ?_; clear hK
  refine wpList_step (fun K hK => ?_); go_simp; refine hK _ _ ?_; clear hK
  refine wpList_step (fun K hK => ?_); go_simp; refine hK _ _ ?_; clear hK
  refine wpList_step (fun K hK => ?_); go_simp; refine hK _ _ ?_; clear hK
  refine wpList_step (fun K hK => ?_); go_simp; refine hK _ _ ?_; clear hK
  refine wpList_step (fun K hK => ?_); go_simp; refine hK _ _ ?_; clear hK
  refine wpList_step (fun K hK => ?_); go_simp; refine hK _ _ ?_; clear hK
  refine wpList_step (fun K hK => ?_); go_simp; refine hK _ _ ?_; clear hK
  refine wpList_step (fun K hK => ?_); go_simp; refine hK _ _ ?_; clear hK
  refine wpList_step (fun K hK => ?_); go_simp; refine hK _ _ ?_; clear hK
  refine wpList_step (fun K hK => ?_); go_simp; refine hK _ _ ?_; clear hK
  refine wpList_step (fun K hK => ?_); go_simp; refine hK _ _ ?_; clear hK
  refine wpList_step (fun K hK => ?_); go_simp; refine hK _ _ ?_; clear hK
  refine wpList_step (fun K hK => ?_); go_simp; refine hK _ _ ?_; clear hK
  refine wpList_step (fun K hK => ?_); go_simp; refine hK _ _ ?_; clear hK
  refine wpList_nil ?_
  go_wp2_with fail
  go_ret
  exact ⟨rfl, hB.out⟩

set_option maxHeartbeats 16000000 in
theorem sm_7 (c1 c2 : Array Value) (m n : Msg) (LA : Option Addr) (lc : Nat) (TA : Option Addr) (tc : Nat) (LB : Option Addr) (ld : Nat) (TB : Option Addr) (td : Nat) (w : World) (hM : MsgIn w c1 m LA lc TA tc) (hN : MsgIn w c2 n LB ld TB td) (e0 : m.kind = n.kind) (e1 : m.session = n.session) (e2 : m.from_ = n.from_) (e3 : m.to_ = n.to_) (e4 : m.pair = n.pair) (e5 : m.list = n.list) (e6 : m.text = n.text) (e7 : m.bind_ ≠ n.bind_) : Calls Tryd.prog 13 #[.agg c1, .agg c2] w fun e w' => e = .returned (.bool false) ∧ Below w.heap.size w w' := by
  have hX : ((w.alloc (.cells c1 36)).alloc (.cells c2 36)).heap[w.heap.size]? = some (.cells c1 36 (0, 0)) := by
    rw [heap_alloc?, if_neg (by simp)]; exact heap_alloc_new w _
  have hY : ((w.alloc (.cells c1 36)).alloc (.cells c2 36)).heap[w.heap.size + 1]? = some (.cells c2 36 (0, 0)) := by
    rw [heap_alloc?, if_pos (by simp)]
  have hB : Below w.heap.size w ((w.alloc (.cells c1 36)).alloc (.cells c2 36)) := later (boxed _ _) (boxed _ _)
  have h1 := hM.cells
  have h2 := hN.cells
  replace hM := Lib.hid (hM.on hB)
  replace hN := Lib.hid (hN.on hB)
  replace hB := Lib.hid hB
  replace e0 := Lib.hid e0
  replace e1 := Lib.hid e1
  replace e2 := Lib.hid e2
  replace e3 := Lib.hid e3
  replace e4 := Lib.hid e4
  replace e5 := Lib.hid e5
  replace e6 := Lib.hid e6
  replace e7 := Lib.hid e7
  have k0 := cell_of hX h1.kind
  have j0 := cell_of hY h2.kind
  have f0 : (m.kind == n.kind) = true := beq_iff_eq.2 e0.out
  have x1 := Lib.hid (rowAt_of hX h1.session)
  have y1 := Lib.hid (rowAt_of hY h2.session)
  have i1 : (Tryd.prog.info? 26).map (·.size) = some (arrB m.session).size := by rw [show (arrB m.session).size = 32 from by simp [arrB, h1.session.1]]; kernel_rfl
  have g1 : (Tryd.prog.info? 26).map (·.size) = some (arrB n.session).size := by rw [show (arrB n.session).size = 32 from by simp [arrB, h2.session.1]]; kernel_rfl
  have q1 : ∀ w, (binOp .eql 26 (.agg (arrB m.session)) (.agg (arrB n.session))).run Tryd.prog w = .ok (.bool true) w := fun w => by rw [eqlG 26 32 Tryd.underlying26 m.session n.session h1.session.1 h2.session.1]; rw [beq_iff_eq.2 e1.out]
  have k33 := cell_of hX h1.from_
  have j33 := cell_of hY h2.from_
  have f2 : (m.from_ == n.from_) = true := beq_iff_eq.2 e2.out
  have k34 := cell_of hX h1.to_
  have j34 := cell_of hY h2.to_
  have f3 : (m.to_ == n.to_) = true := beq_iff_eq.2 e3.out
  have x4 := Lib.hid (pairAt_of hX h1)
  have y4 := Lib.hid (pairAt_of hY h2)
  have pm : PairOk m.pair := ⟨h1.hid.1, h1.bnd.1⟩
  have pn : PairOk n.pair := ⟨h2.hid.1, h2.bnd.1⟩
  have i4 : (Tryd.prog.info? 29).map (·.size) = some (pairA m.pair).size := by rw [pairA_size pm]; kernel_rfl
  have g4 : (Tryd.prog.info? 29).map (·.size) = some (pairA n.pair).size := by rw [pairA_size pn]; kernel_rfl
  have q4 : ∀ w, (binOp .eql 29 (.agg (pairA m.pair)) (.agg (pairA n.pair))).run Tryd.prog w = .ok (.bool true) w := fun w => by rw [eqlPG m.pair n.pair pm pn w]; rw [decide_eq_true e4.out]
  clear pm pn
  have k100 := cell_of hX h1.list
  have j100 := cell_of hY h2.list
  have k101 := cell_of hX h1.text
  have j101 := cell_of hY h2.text
  have x7 := Lib.hid (rowAt_of hX h1.bind_)
  have y7 := Lib.hid (rowAt_of hY h2.bind_)
  have i7 : (Tryd.prog.info? 26).map (·.size) = some (arrB m.bind_).size := by rw [show (arrB m.bind_).size = 32 from by simp [arrB, h1.bind_.1]]; kernel_rfl
  have g7 : (Tryd.prog.info? 26).map (·.size) = some (arrB n.bind_).size := by rw [show (arrB n.bind_).size = 32 from by simp [arrB, h2.bind_.1]]; kernel_rfl
  have q7 : ∀ w, (binOp .eql 26 (.agg (arrB m.bind_)) (.agg (arrB n.bind_))).run Tryd.prog w = .ok (.bool false) w := fun w => by rw [eqlG 26 32 Tryd.underlying26 m.bind_ n.bind_ h1.bind_.1 h2.bind_.1]; rw [beq_eq_false_iff_ne.2 e7.out]
  clear hX hY h1 h2
  go_enter Tryd.func13, Tryd.ntmps13
  go_upto_region 1 with fail
  generalize ((w.alloc (.cells c1 36)).alloc (.cells c2 36)) = W at *
  go_step
  refine wpList_step (fun K hK => ?_); go_simp; refine hK _ _ ?_; clear hK
  refine wpList_step (fun K hK => ?_); go_simp; refine hK _ _ ?_; clear hK
  refine wpList_step (fun K hK => ?_); go_simp; refine hK _ _ ?_; clear hK
  refine wpList_step (fun K hK => ?_); go_simp; refine hK _ _ ?_; clear hK
  refine wpList_step (fun K hK => ?_); go_simp; refine hK _ _ ?_; clear hK
  refine wpList_step (fun K hK => ?_); go_simp; refine hK _ _ ?_; clear hK
  refine wpList_step (fun K hK => ?_); go_simp; refine hK _ _ ?_; clear hK
  apply wpList_loadG (hc := x1.out) (hu := Tryd.underlying26) (hi := i1); (case ho => exact rfl); (case hx => exact rfl); (case hd => rfl); (case hw => simp [Region.wanted, yielded])
  refine wpList_step (fun K hK => ?_); go_simp; refine hK _ _ ?_; clear hK
  apply wpList_loadG (hc := y1.out) (hu := Tryd.underlying26) (hi := g1); (case ho => exact rfl); (case hx => exact rfl); (case hd => rfl); (case hw => simp [Region.wanted, yielded])
  refine wpList_step (fun K hK => ?_); go_simp; refine hK _ _ ?_; clear hK
  refine wpList_step (fun K hK => ?_); go_simp; refine hK _ _ ?_; clear hK
  refine wpList_step (fun K hK => ?_); go_simp; refine hK _ _ ?_; clear hK
  refine wpList_step (fun K hK => ?_); go_simp; refine hK _ _ ?_; clear hK
  refine wpList_step (fun K hK => ?_); go_simp; refine hK _ _ ?_; clear hK
  refine wpList_step (fun K hK => ?_); go_simp; refine hK _ _ ?_; clear hK
  refine wpList_step (fun K hK => ?_); go_simp; refine hK _ _ ?_; clear hK
  refine wpList_step (fun K hK => ?_); go_simp; refine hK _ _ ?_; clear hK
  refine wpList_step (fun K hK => ?_); go_simp; refine hK _ _ ?_; clear hK
  refine wpList_step (fun K hK => ?_); go_simp; refine hK _ _ ?_; clear hK
  refine wpList_step (fun K hK => ?_); go_simp; refine hK _ _ ?_; clear hK
  refine wpList_step (fun K hK => ?_); go_simp; refine hK _ _ ?_; clear hK
  refine wpList_step (fun K hK => ?_); go_simp; refine hK _ _ ?_; clear hK
  refine wpList_step (fun K hK => ?_); go_simp; refine hK _ _ ?_; clear hK
  refine wpList_step (fun K hK => ?_); go_simp; refine hK _ _ ?_; clear hK
  refine wpList_step (fun K hK => ?_); go_simp; refine hK _ _ ?_; clear hK
  refine wpList_step (fun K hK => ?_); go_simp; refine hK _ _ ?_; clear hK
  refine wpList_step (fun K hK => ?_); go_simp; refine hK _ _ ?_; clear hK
  apply wpList_loadG (hc := x4.out) (hu := Tryd.underlying29) (hi := i4); (case ho => exact rfl); (case hx => exact rfl); (case hd => rfl); (case hw => simp [Region.wanted, yielded])
  refine wpList_step (fun K hK => ?_); go_simp; refine hK _ _ ?_; clear hK
  apply wpList_loadG (hc := y4.out) (hu := Tryd.underlying29) (hi := g4); (case ho => exact rfl); (case hx => exact rfl); (case hd => rfl); (case hw => simp [Region.wanted, yielded])
  refine wpList_step (fun K hK => ?_); go_simp; refine hK _ _ ?_; clear hK
  refine wpList_step (fun K hK => ?_); go_simp; refine hK _ _ ?_; clear hK
  refine wpList_step (fun K hK => ?_); go_simp; refine hK _ _ ?_; clear hK
  refine wpList_step (fun K hK => ?_); go_simp; refine hK _ _ ?_; clear hK
  refine wpList_step (fun K hK => ?_); go_simp; refine hK _ _ ?_; clear hK
  refine wpList_step (fun K hK => ?_); go_simp; refine hK _ _ ?_; clear hK
  refine wpList_step (fun K hK => ?_); go_simp; refine hK _ _ ?_; clear hK
  have hc := sameCommitments_any LA LB lc ld m.list n.list W hM.out.list hN.out.list hM.out.pok hN.out.pok hM.out.lsz hN.out.lsz
  rw [decide_eq_true e5.out] at hc
  replace hc := Lib.hid hc
  refine wpList_step (fun K hK => ?_); go_simp
  go_at_call 48
  refine hc.out.mono ?_
  rintro e w7 ⟨rfl, a5, hw5⟩
  refine hK _ _ ?_
  clear hK
  replace k101 : w7.cell? ⟨w.heap.size, 101, none⟩ = some (.slice TA m.text.length tc) := by rw [hw5]; exact k101
  replace j101 : w7.cell? ⟨w.heap.size + 1, 101, none⟩ = some (.slice TB n.text.length td) := by rw [hw5]; exact j101
  replace x7 : Hid (RowAt w7 w.heap.size 102 (arrB m.bind_)) := Lib.hid (by rw [hw5]; exact x7.out)
  replace y7 : Hid (RowAt w7 (w.heap.size + 1) 102 (arrB n.bind_)) := Lib.hid (by rw [hw5]; exact y7.out)
  replace hM : Hid (MsgIn w7 c1 m LA lc TA tc) := Lib.hid (by rw [hw5]; exact (hM.out.on (below_drewN (Below.refl _ _) _)))
  replace hN : Hid (MsgIn w7 c2 n LB ld TB td) := Lib.hid (by rw [hw5]; exact (hN.out.on (below_drewN (Below.refl _ _) _)))
  replace hB : Hid (Below w.heap.size w w7) := Lib.hid (by rw [hw5]; exact below_drewN hB.out _)
  replace hw5 := Lib.hid hw5
  refine wpList_step (fun K hK => ?_); go_simp; refine hK _ _ ?_; clear hK
  refine wpList_step (fun K hK => ?_); go_simp; refine hK _ _ ?_; clear hK
  refine wpList_step (fun K hK => ?_); go_simp; refine hK _ _ ?_; clear hK
  refine wpList_step (fun K hK => ?_); go_simp; refine hK _ _ ?_; clear hK
  refine wpList_step (fun K hK => ?_); go_simp; refine hK _ _ ?_; clear hK
  refine wpList_step (fun K hK => ?_); go_simp; refine hK _ _ ?_; clear hK
  have hc := sameBytes_any TA TB tc td m.text n.text w7 hM.out.text hN.out.text hM.out.tsz hN.out.tsz
  rw [decide_eq_true e6.out] at hc
  replace hc := Lib.hid hc
  refine wpList_step (fun K hK => ?_); go_simp
  go_at_call 19
  refine hc.out.mono ?_
  rintro e w8 ⟨rfl, a6, hw6⟩
  refine hK _ _ ?_
  clear hK
  replace x7 : Hid (RowAt w8 w.heap.size 102 (arrB m.bind_)) := Lib.hid (by rw [hw6]; exact x7.out)
  replace y7 : Hid (RowAt w8 (w.heap.size + 1) 102 (arrB n.bind_)) := Lib.hid (by rw [hw6]; exact y7.out)
  replace hM : Hid (MsgIn w8 c1 m LA lc TA tc) := Lib.hid (by rw [hw6]; exact (hM.out.on (below_drewN (Below.refl _ _) _)))
  replace hN : Hid (MsgIn w8 c2 n LB ld TB td) := Lib.hid (by rw [hw6]; exact (hN.out.on (below_drewN (Below.refl _ _) _)))
  replace hB : Hid (Below w.heap.size w w8) := Lib.hid (by rw [hw6]; exact below_drewN hB.out _)
  replace hw6 := Lib.hid hw6
  refine wpList_step (fun K hK => ?_); go_simp; refine hK _ _ ?_; clear hK
  refine wpList_step (fun K hK => ?_); go_simp; refine hK _ _ ?_; clear hK
  refine wpList_step (fun K hK => ?_); go_simp; refine hK _ _ ?_; clear hK
  apply wpList_loadG (hc := x7.out) (hu := Tryd.underlying26) (hi := i7); (case ho => exact rfl); (case hx => exact rfl); (case hd => rfl); (case hw => simp [Region.wanted, yielded])
  refine wpList_step (fun K hK => ?_); go_simp; refine hK _ _ ?_; clear hK
  apply wpList_loadG (hc := y7.out) (hu := Tryd.underlying26) (hi := g7); (case ho => exact rfl); (case hx => exact rfl); (case hd => rfl); (case hw => simp [Region.wanted, yielded])
  refine wpList_step (fun K hK => ?_); go_simp; refine hK _ _ ?_; clear hK
  refine wpList_step (fun K hK => ?_); go_simp; refine hK _ _ ?_; clear hK
  refine wpList_step (fun K hK => ?_); go_simp; refine hK _ _ ?_; clear hK
  refine wpList_step (fun K hK => ?_); go_simp; refine hK _ _ ?_; clear hK
  refine wpList_step (fun K hK => ?_); go_simp; refine hK _ _ ?_; clear hK
  refine wpList_step (fun K hK => ?_); go_simp; refine hK _ _ ?_; clear hK
  refine wpList_step (fun K hK => ?_); go_simp; refine hK _ _ ?_; clear hK
  refine wpList_step (fun K hK => ?_); go_simp; refine hK _ _ ?_; clear hK
  refine wpList_step (fun K hK => ?_); go_simp; refine hK _ _ ?_; clear hK
  refine wpList_step (fun K hK => ?_); go_simp; refine hK _ _ ?_; clear hK
  refine wpList_step (fun K hK => ?_); go_simp; refine hK _ _ ?_; clear hK
  refine wpList_step (fun K hK => ?_); go_simp; refine hK _ _ ?_; clear hK
  refine wpList_step (fun K hK => ?_); go_simp; refine hK _ _ ?_; clear hK
  refine wpList_step (fun K hK => ?_); go_simp; refine hK _ _ ?_; clear hK
  refine wpList_step (fun K hK => ?_); go_simp; refine hK _ _ ?_; clear hK
  refine wpList_step (fun K hK => ?_); go_simp; refine hK _ _ ?_; clear hK
  refine wpList_step (fun K hK => ?_); go_simp; refine hK _ _ ?_; clear hK
  refine wpList_step (fun K hK => ?_); go_simp; refine hK _ _ ?_; clear hK
  refine wpList_step (fun K hK => ?_); go_simp; refine hK _ _ ?_; clear hK
  refine wpList_step (fun K hK => ?_); go_simp; refine hK _ _ ?_; clear hK
  refine wpList_step (fun K hK => ?_); go_simp; refine hK _ _ ?_; clear hK
  refine wpList_step (fun K hK => ?_); go_simp; refine hK _ _ ?_; clear hK
  refine wpList_step (fun K hK => ?_); go_simp; refine hK _ _ ?_; clear hK
  refine wpList_step (fun K hK => ?_); go_simp; refine hK _ _ ?_; clear hK
  refine wpList_nil ?_
  go_wp2_with fail
  go_ret
  exact ⟨rfl, hB.out⟩

set_option maxHeartbeats 16000000 in
theorem sm_8 (c1 c2 : Array Value) (m n : Msg) (LA : Option Addr) (lc : Nat) (TA : Option Addr) (tc : Nat) (LB : Option Addr) (ld : Nat) (TB : Option Addr) (td : Nat) (w : World) (hM : MsgIn w c1 m LA lc TA tc) (hN : MsgIn w c2 n LB ld TB td) (e0 : m.kind = n.kind) (e1 : m.session = n.session) (e2 : m.from_ = n.from_) (e3 : m.to_ = n.to_) (e4 : m.pair = n.pair) (e5 : m.list = n.list) (e6 : m.text = n.text) (e7 : m.bind_ = n.bind_) (e8 : m.share ≠ n.share) : Calls Tryd.prog 13 #[.agg c1, .agg c2] w fun e w' => e = .returned (.bool false) ∧ Below w.heap.size w w' := by
  have hX : ((w.alloc (.cells c1 36)).alloc (.cells c2 36)).heap[w.heap.size]? = some (.cells c1 36 (0, 0)) := by
    rw [heap_alloc?, if_neg (by simp)]; exact heap_alloc_new w _
  have hY : ((w.alloc (.cells c1 36)).alloc (.cells c2 36)).heap[w.heap.size + 1]? = some (.cells c2 36 (0, 0)) := by
    rw [heap_alloc?, if_pos (by simp)]
  have hB : Below w.heap.size w ((w.alloc (.cells c1 36)).alloc (.cells c2 36)) := later (boxed _ _) (boxed _ _)
  have h1 := hM.cells
  have h2 := hN.cells
  replace hM := Lib.hid (hM.on hB)
  replace hN := Lib.hid (hN.on hB)
  replace hB := Lib.hid hB
  replace e0 := Lib.hid e0
  replace e1 := Lib.hid e1
  replace e2 := Lib.hid e2
  replace e3 := Lib.hid e3
  replace e4 := Lib.hid e4
  replace e5 := Lib.hid e5
  replace e6 := Lib.hid e6
  replace e7 := Lib.hid e7
  replace e8 := Lib.hid e8
  have k0 := cell_of hX h1.kind
  have j0 := cell_of hY h2.kind
  have f0 : (m.kind == n.kind) = true := beq_iff_eq.2 e0.out
  have x1 := Lib.hid (rowAt_of hX h1.session)
  have y1 := Lib.hid (rowAt_of hY h2.session)
  have i1 : (Tryd.prog.info? 26).map (·.size) = some (arrB m.session).size := by rw [show (arrB m.session).size = 32 from by simp [arrB, h1.session.1]]; kernel_rfl
  have g1 : (Tryd.prog.info? 26).map (·.size) = some (arrB n.session).size := by rw [show (arrB n.session).size = 32 from by simp [arrB, h2.session.1]]; kernel_rfl
  have q1 : ∀ w, (binOp .eql 26 (.agg (arrB m.session)) (.agg (arrB n.session))).run Tryd.prog w = .ok (.bool true) w := fun w => by rw [eqlG 26 32 Tryd.underlying26 m.session n.session h1.session.1 h2.session.1]; rw [beq_iff_eq.2 e1.out]
  have k33 := cell_of hX h1.from_
  have j33 := cell_of hY h2.from_
  have f2 : (m.from_ == n.from_) = true := beq_iff_eq.2 e2.out
  have k34 := cell_of hX h1.to_
  have j34 := cell_of hY h2.to_
  have f3 : (m.to_ == n.to_) = true := beq_iff_eq.2 e3.out
  have x4 := Lib.hid (pairAt_of hX h1)
  have y4 := Lib.hid (pairAt_of hY h2)
  have pm : PairOk m.pair := ⟨h1.hid.1, h1.bnd.1⟩
  have pn : PairOk n.pair := ⟨h2.hid.1, h2.bnd.1⟩
  have i4 : (Tryd.prog.info? 29).map (·.size) = some (pairA m.pair).size := by rw [pairA_size pm]; kernel_rfl
  have g4 : (Tryd.prog.info? 29).map (·.size) = some (pairA n.pair).size := by rw [pairA_size pn]; kernel_rfl
  have q4 : ∀ w, (binOp .eql 29 (.agg (pairA m.pair)) (.agg (pairA n.pair))).run Tryd.prog w = .ok (.bool true) w := fun w => by rw [eqlPG m.pair n.pair pm pn w]; rw [decide_eq_true e4.out]
  clear pm pn
  have k100 := cell_of hX h1.list
  have j100 := cell_of hY h2.list
  have k101 := cell_of hX h1.text
  have j101 := cell_of hY h2.text
  have x7 := Lib.hid (rowAt_of hX h1.bind_)
  have y7 := Lib.hid (rowAt_of hY h2.bind_)
  have i7 : (Tryd.prog.info? 26).map (·.size) = some (arrB m.bind_).size := by rw [show (arrB m.bind_).size = 32 from by simp [arrB, h1.bind_.1]]; kernel_rfl
  have g7 : (Tryd.prog.info? 26).map (·.size) = some (arrB n.bind_).size := by rw [show (arrB n.bind_).size = 32 from by simp [arrB, h2.bind_.1]]; kernel_rfl
  have q7 : ∀ w, (binOp .eql 26 (.agg (arrB m.bind_)) (.agg (arrB n.bind_))).run Tryd.prog w = .ok (.bool true) w := fun w => by rw [eqlG 26 32 Tryd.underlying26 m.bind_ n.bind_ h1.bind_.1 h2.bind_.1]; rw [beq_iff_eq.2 e7.out]
  have x8 := Lib.hid (rowAt_of hX h1.share)
  have y8 := Lib.hid (rowAt_of hY h2.share)
  have i8 : (Tryd.prog.info? 31).map (·.size) = some (arrB m.share).size := by rw [show (arrB m.share).size = 32 from by simp [arrB, h1.share.1]]; kernel_rfl
  have g8 : (Tryd.prog.info? 31).map (·.size) = some (arrB n.share).size := by rw [show (arrB n.share).size = 32 from by simp [arrB, h2.share.1]]; kernel_rfl
  have q8 : ∀ w, (binOp .eql 31 (.agg (arrB m.share)) (.agg (arrB n.share))).run Tryd.prog w = .ok (.bool false) w := fun w => by rw [eqlG 31 32 Tryd.underlying31 m.share n.share h1.share.1 h2.share.1]; rw [beq_eq_false_iff_ne.2 e8.out]
  clear hX hY h1 h2
  go_enter Tryd.func13, Tryd.ntmps13
  go_upto_region 1 with fail
  generalize ((w.alloc (.cells c1 36)).alloc (.cells c2 36)) = W at *
  go_step
  refine wpList_step (fun K hK => ?_); go_simp; refine hK _ _ ?_; clear hK
  refine wpList_step (fun K hK => ?_); go_simp; refine hK _ _ ?_; clear hK
  refine wpList_step (fun K hK => ?_); go_simp; refine hK _ _ ?_; clear hK
  refine wpList_step (fun K hK => ?_); go_simp; refine hK _ _ ?_; clear hK
  refine wpList_step (fun K hK => ?_); go_simp; refine hK _ _ ?_; clear hK
  refine wpList_step (fun K hK => ?_); go_simp; refine hK _ _ ?_; clear hK
  refine wpList_step (fun K hK => ?_); go_simp; refine hK _ _ ?_; clear hK
  apply wpList_loadG (hc := x1.out) (hu := Tryd.underlying26) (hi := i1); (case ho => exact rfl); (case hx => exact rfl); (case hd => rfl); (case hw => simp [Region.wanted, yielded])
  refine wpList_step (fun K hK => ?_); go_simp; refine hK _ _ ?_; clear hK
  apply wpList_loadG (hc := y1.out) (hu := Tryd.underlying26) (hi := g1); (case ho => exact rfl); (case hx => exact rfl); (case hd => rfl); (case hw => simp [Region.wanted, yielded])
  refine wpList_step (fun K hK => ?_); go_simp; refine hK _ _ ?_; clear hK
  refine wpList_step (fun K hK => ?_); go_simp; refine hK _ _ ?_; clear hK
  refine wpList_step (fun K hK => ?_); go_simp; refine hK _ _ ?_; clear hK
  refine wpList_step (fun K hK => ?_); go_simp; refine hK _ _ ?_; clear hK
  refine wpList_step (fun K hK => ?_); go_simp; refine hK _ _ ?_; clear hK
  refine wpList_step (fun K hK => ?_); go_simp; refine hK _ _ ?_; clear hK
  refine wpList_step (fun K hK => ?_); go_simp; refine hK _ _ ?_; clear hK
  refine wpList_step (fun K hK => ?_); go_simp; refine hK _ _ ?_; clear hK
  refine wpList_step (fun K hK => ?_); go_simp; refine hK _ _ ?_; clear hK
  refine wpList_step (fun K hK => ?_); go_simp; refine hK _ _ ?_; clear hK
  refine wpList_step (fun K hK => ?_); go_simp; refine hK _ _ ?_; clear hK
  refine wpList_step (fun K hK => ?_); go_simp; refine hK _ _ ?_; clear hK
  refine wpList_step (fun K hK => ?_); go_simp; refine hK _ _ ?_; clear hK
  refine wpList_step (fun K hK => ?_); go_simp; refine hK _ _ ?_; clear hK
  refine wpList_step (fun K hK => ?_); go_simp; refine hK _ _ ?_; clear hK
  refine wpList_step (fun K hK => ?_); go_simp; refine hK _ _ ?_; clear hK
  refine wpList_step (fun K hK => ?_); go_simp; refine hK _ _ ?_; clear hK
  refine wpList_step (fun K hK => ?_); go_simp; refine hK _ _ ?_; clear hK
  apply wpList_loadG (hc := x4.out) (hu := Tryd.underlying29) (hi := i4); (case ho => exact rfl); (case hx => exact rfl); (case hd => rfl); (case hw => simp [Region.wanted, yielded])
  refine wpList_step (fun K hK => ?_); go_simp; refine hK _ _ ?_; clear hK
  apply wpList_loadG (hc := y4.out) (hu := Tryd.underlying29) (hi := g4); (case ho => exact rfl); (case hx => exact rfl); (case hd => rfl); (case hw => simp [Region.wanted, yielded])
  refine wpList_step (fun K hK => ?_); go_simp; refine hK _ _ ?_; clear hK
  refine wpList_step (fun K hK => ?_); go_simp; refine hK _ _ ?_; clear hK
  refine wpList_step (fun K hK => ?_); go_simp; refine hK _ _ ?_; clear hK
  refine wpList_step (fun K hK => ?_); go_simp; refine hK _ _ ?_; clear hK
  refine wpList_step (fun K hK => ?_); go_simp; refine hK _ _ ?_; clear hK
  refine wpList_step (fun K hK => ?_); go_simp; refine hK _ _ ?_; clear hK
  refine wpList_step (fun K hK => ?_); go_simp; refine hK _ _ ?_; clear hK
  have hc := sameCommitments_any LA LB lc ld m.list n.list W hM.out.list hN.out.list hM.out.pok hN.out.pok hM.out.lsz hN.out.lsz
  rw [decide_eq_true e5.out] at hc
  replace hc := Lib.hid hc
  refine wpList_step (fun K hK => ?_); go_simp
  go_at_call 48
  refine hc.out.mono ?_
  rintro e w7 ⟨rfl, a5, hw5⟩
  refine hK _ _ ?_
  clear hK
  replace k101 : w7.cell? ⟨w.heap.size, 101, none⟩ = some (.slice TA m.text.length tc) := by rw [hw5]; exact k101
  replace j101 : w7.cell? ⟨w.heap.size + 1, 101, none⟩ = some (.slice TB n.text.length td) := by rw [hw5]; exact j101
  replace x7 : Hid (RowAt w7 w.heap.size 102 (arrB m.bind_)) := Lib.hid (by rw [hw5]; exact x7.out)
  replace y7 : Hid (RowAt w7 (w.heap.size + 1) 102 (arrB n.bind_)) := Lib.hid (by rw [hw5]; exact y7.out)
  replace x8 : Hid (RowAt w7 w.heap.size 134 (arrB m.share)) := Lib.hid (by rw [hw5]; exact x8.out)
  replace y8 : Hid (RowAt w7 (w.heap.size + 1) 134 (arrB n.share)) := Lib.hid (by rw [hw5]; exact y8.out)
  replace hM : Hid (MsgIn w7 c1 m LA lc TA tc) := Lib.hid (by rw [hw5]; exact (hM.out.on (below_drewN (Below.refl _ _) _)))
  replace hN : Hid (MsgIn w7 c2 n LB ld TB td) := Lib.hid (by rw [hw5]; exact (hN.out.on (below_drewN (Below.refl _ _) _)))
  replace hB : Hid (Below w.heap.size w w7) := Lib.hid (by rw [hw5]; exact below_drewN hB.out _)
  replace hw5 := Lib.hid hw5
  refine wpList_step (fun K hK => ?_); go_simp; refine hK _ _ ?_; clear hK
  refine wpList_step (fun K hK => ?_); go_simp; refine hK _ _ ?_; clear hK
  refine wpList_step (fun K hK => ?_); go_simp; refine hK _ _ ?_; clear hK
  refine wpList_step (fun K hK => ?_); go_simp; refine hK _ _ ?_; clear hK
  refine wpList_step (fun K hK => ?_); go_simp; refine hK _ _ ?_; clear hK
  refine wpList_step (fun K hK => ?_); go_simp; refine hK _ _ ?_; clear hK
  have hc := sameBytes_any TA TB tc td m.text n.text w7 hM.out.text hN.out.text hM.out.tsz hN.out.tsz
  rw [decide_eq_true e6.out] at hc
  replace hc := Lib.hid hc
  refine wpList_step (fun K hK => ?_); go_simp
  go_at_call 19
  refine hc.out.mono ?_
  rintro e w8 ⟨rfl, a6, hw6⟩
  refine hK _ _ ?_
  clear hK
  replace x7 : Hid (RowAt w8 w.heap.size 102 (arrB m.bind_)) := Lib.hid (by rw [hw6]; exact x7.out)
  replace y7 : Hid (RowAt w8 (w.heap.size + 1) 102 (arrB n.bind_)) := Lib.hid (by rw [hw6]; exact y7.out)
  replace x8 : Hid (RowAt w8 w.heap.size 134 (arrB m.share)) := Lib.hid (by rw [hw6]; exact x8.out)
  replace y8 : Hid (RowAt w8 (w.heap.size + 1) 134 (arrB n.share)) := Lib.hid (by rw [hw6]; exact y8.out)
  replace hM : Hid (MsgIn w8 c1 m LA lc TA tc) := Lib.hid (by rw [hw6]; exact (hM.out.on (below_drewN (Below.refl _ _) _)))
  replace hN : Hid (MsgIn w8 c2 n LB ld TB td) := Lib.hid (by rw [hw6]; exact (hN.out.on (below_drewN (Below.refl _ _) _)))
  replace hB : Hid (Below w.heap.size w w8) := Lib.hid (by rw [hw6]; exact below_drewN hB.out _)
  replace hw6 := Lib.hid hw6
  refine wpList_step (fun K hK => ?_); go_simp; refine hK _ _ ?_; clear hK
  refine wpList_step (fun K hK => ?_); go_simp; refine hK _ _ ?_; clear hK
  refine wpList_step (fun K hK => ?_); go_simp; refine hK _ _ ?_; clear hK
  apply wpList_loadG (hc := x7.out) (hu := Tryd.underlying26) (hi := i7); (case ho => exact rfl); (case hx => exact rfl); (case hd => rfl); (case hw => simp [Region.wanted, yielded])
  refine wpList_step (fun K hK => ?_); go_simp; refine hK _ _ ?_; clear hK
  apply wpList_loadG (hc := y7.out) (hu := Tryd.underlying26) (hi := g7); (case ho => exact rfl); (case hx => exact rfl); (case hd => rfl); (case hw => simp [Region.wanted, yielded])
  refine wpList_step (fun K hK => ?_); go_simp; refine hK _ _ ?_; clear hK
  refine wpList_step (fun K hK => ?_); go_simp; refine hK _ _ ?_; clear hK
  refine wpList_step (fun K hK => ?_); go_simp; refine hK _ _ ?_; clear hK
  refine wpList_step (fun K hK => ?_); go_simp; refine hK _ _ ?_; clear hK
  apply wpList_loadG (hc := x8.out) (hu := Tryd.underlying31) (hi := i8); (case ho => exact rfl); (case hx => exact rfl); (case hd => rfl); (case hw => simp [Region.wanted, yielded])
  refine wpList_step (fun K hK => ?_); go_simp; refine hK _ _ ?_; clear hK
  apply wpList_loadG (hc := y8.out) (hu := Tryd.underlying31) (hi := g8); (case ho => exact rfl); (case hx => exact rfl); (case hd => rfl); (case hw => simp [Region.wanted, yielded])
  refine wpList_step (fun K hK => ?_); go_simp; refine hK _ _ ?_; clear hK
  refine wpList_step (fun K hK => ?_); go_simp; refine hK _ _ ?_; clear hK
  refine wpList_step (fun K hK => ?_); go_simp; refine hK _ _ ?_; clear hK
  refine wpList_step (fun K hK => ?_); go_simp; refine hK _ _ ?_; clear hK
  refine wpList_step (fun K hK => ?_); go_simp; refine hK _ _ ?_; clear hK
  refine wpList_step (fun K hK => ?_); go_simp; refine hK _ _ ?_; clear hK
  refine wpList_step (fun K hK => ?_); go_simp; refine hK _ _ ?_; clear hK
  refine wpList_step (fun K hK => ?_); go_simp; refine hK _ _ ?_; clear hK
  refine wpList_step (fun K hK => ?_); go_simp; refine hK _ _ ?_; clear hK
  refine wpList_step (fun K hK => ?_); go_simp; refine hK _ _ ?_; clear hK
  refine wpList_step (fun K hK => ?_); go_simp; refine hK _ _ ?_; clear hK
  refine wpList_step (fun K hK => ?_); go_simp; refine hK _ _ ?_; clear hK
  refine wpList_step (fun K hK => ?_); go_simp; refine hK _ _ ?_; clear hK
  refine wpList_step (fun K hK => ?_); go_simp; refine hK _ _ ?_; clear hK
  refine wpList_step (fun K hK => ?_); go_simp; refine hK _ _ ?_; clear hK
  refine wpList_step (fun K hK => ?_); go_simp; refine hK _ _ ?_; clear hK
  refine wpList_step (fun K hK => ?_); go_simp; refine hK _ _ ?_; clear hK
  refine wpList_nil ?_
  go_wp2_with fail
  go_ret
  exact ⟨rfl, hB.out⟩

set_option maxHeartbeats 16000000 in
theorem sm_9 (c1 c2 : Array Value) (m n : Msg) (LA : Option Addr) (lc : Nat) (TA : Option Addr) (tc : Nat) (LB : Option Addr) (ld : Nat) (TB : Option Addr) (td : Nat) (w : World) (hM : MsgIn w c1 m LA lc TA tc) (hN : MsgIn w c2 n LB ld TB td) (e0 : m.kind = n.kind) (e1 : m.session = n.session) (e2 : m.from_ = n.from_) (e3 : m.to_ = n.to_) (e4 : m.pair = n.pair) (e5 : m.list = n.list) (e6 : m.text = n.text) (e7 : m.bind_ = n.bind_) (e8 : m.share = n.share) (e9 : m.sig ≠ n.sig) : Calls Tryd.prog 13 #[.agg c1, .agg c2] w fun e w' => e = .returned (.bool false) ∧ Below w.heap.size w w' := by
  have hX : ((w.alloc (.cells c1 36)).alloc (.cells c2 36)).heap[w.heap.size]? = some (.cells c1 36 (0, 0)) := by
    rw [heap_alloc?, if_neg (by simp)]; exact heap_alloc_new w _
  have hY : ((w.alloc (.cells c1 36)).alloc (.cells c2 36)).heap[w.heap.size + 1]? = some (.cells c2 36 (0, 0)) := by
    rw [heap_alloc?, if_pos (by simp)]
  have hB : Below w.heap.size w ((w.alloc (.cells c1 36)).alloc (.cells c2 36)) := later (boxed _ _) (boxed _ _)
  have h1 := hM.cells
  have h2 := hN.cells
  replace hM := Lib.hid (hM.on hB)
  replace hN := Lib.hid (hN.on hB)
  replace hB := Lib.hid hB
  replace e0 := Lib.hid e0
  replace e1 := Lib.hid e1
  replace e2 := Lib.hid e2
  replace e3 := Lib.hid e3
  replace e4 := Lib.hid e4
  replace e5 := Lib.hid e5
  replace e6 := Lib.hid e6
  replace e7 := Lib.hid e7
  replace e8 := Lib.hid e8
  replace e9 := Lib.hid e9
  have k0 := cell_of hX h1.kind
  have j0 := cell_of hY h2.kind
  have f0 : (m.kind == n.kind) = true := beq_iff_eq.2 e0.out
  have x1 := Lib.hid (rowAt_of hX h1.session)
  have y1 := Lib.hid (rowAt_of hY h2.session)
  have i1 : (Tryd.prog.info? 26).map (·.size) = some (arrB m.session).size := by rw [show (arrB m.session).size = 32 from by simp [arrB, h1.session.1]]; kernel_rfl
  have g1 : (Tryd.prog.info? 26).map (·.size) = some (arrB n.session).size := by rw [show (arrB n.session).size = 32 from by simp [arrB, h2.session.1]]; kernel_rfl
  have q1 : ∀ w, (binOp .eql 26 (.agg (arrB m.session)) (.agg (arrB n.session))).run Tryd.prog w = .ok (.bool true) w := fun w => by rw [eqlG 26 32 Tryd.underlying26 m.session n.session h1.session.1 h2.session.1]; rw [beq_iff_eq.2 e1.out]
  have k33 := cell_of hX h1.from_
  have j33 := cell_of hY h2.from_
  have f2 : (m.from_ == n.from_) = true := beq_iff_eq.2 e2.out
  have k34 := cell_of hX h1.to_
  have j34 := cell_of hY h2.to_
  have f3 : (m.to_ == n.to_) = true := beq_iff_eq.2 e3.out
  have x4 := Lib.hid (pairAt_of hX h1)
  have y4 := Lib.hid (pairAt_of hY h2)
  have pm : PairOk m.pair := ⟨h1.hid.1, h1.bnd.1⟩
  have pn : PairOk n.pair := ⟨h2.hid.1, h2.bnd.1⟩
  have i4 : (Tryd.prog.info? 29).map (·.size) = some (pairA m.pair).size := by rw [pairA_size pm]; kernel_rfl
  have g4 : (Tryd.prog.info? 29).map (·.size) = some (pairA n.pair).size := by rw [pairA_size pn]; kernel_rfl
  have q4 : ∀ w, (binOp .eql 29 (.agg (pairA m.pair)) (.agg (pairA n.pair))).run Tryd.prog w = .ok (.bool true) w := fun w => by rw [eqlPG m.pair n.pair pm pn w]; rw [decide_eq_true e4.out]
  clear pm pn
  have k100 := cell_of hX h1.list
  have j100 := cell_of hY h2.list
  have k101 := cell_of hX h1.text
  have j101 := cell_of hY h2.text
  have x7 := Lib.hid (rowAt_of hX h1.bind_)
  have y7 := Lib.hid (rowAt_of hY h2.bind_)
  have i7 : (Tryd.prog.info? 26).map (·.size) = some (arrB m.bind_).size := by rw [show (arrB m.bind_).size = 32 from by simp [arrB, h1.bind_.1]]; kernel_rfl
  have g7 : (Tryd.prog.info? 26).map (·.size) = some (arrB n.bind_).size := by rw [show (arrB n.bind_).size = 32 from by simp [arrB, h2.bind_.1]]; kernel_rfl
  have q7 : ∀ w, (binOp .eql 26 (.agg (arrB m.bind_)) (.agg (arrB n.bind_))).run Tryd.prog w = .ok (.bool true) w := fun w => by rw [eqlG 26 32 Tryd.underlying26 m.bind_ n.bind_ h1.bind_.1 h2.bind_.1]; rw [beq_iff_eq.2 e7.out]
  have x8 := Lib.hid (rowAt_of hX h1.share)
  have y8 := Lib.hid (rowAt_of hY h2.share)
  have i8 : (Tryd.prog.info? 31).map (·.size) = some (arrB m.share).size := by rw [show (arrB m.share).size = 32 from by simp [arrB, h1.share.1]]; kernel_rfl
  have g8 : (Tryd.prog.info? 31).map (·.size) = some (arrB n.share).size := by rw [show (arrB n.share).size = 32 from by simp [arrB, h2.share.1]]; kernel_rfl
  have q8 : ∀ w, (binOp .eql 31 (.agg (arrB m.share)) (.agg (arrB n.share))).run Tryd.prog w = .ok (.bool true) w := fun w => by rw [eqlG 31 32 Tryd.underlying31 m.share n.share h1.share.1 h2.share.1]; rw [beq_iff_eq.2 e8.out]
  have x9 := Lib.hid (rowAt_of hX h1.sig)
  have y9 := Lib.hid (rowAt_of hY h2.sig)
  have i9 : (Tryd.prog.info? 33).map (·.size) = some (arrB m.sig).size := by rw [show (arrB m.sig).size = 64 from by simp [arrB, h1.sig.1]]; kernel_rfl
  have g9 : (Tryd.prog.info? 33).map (·.size) = some (arrB n.sig).size := by rw [show (arrB n.sig).size = 64 from by simp [arrB, h2.sig.1]]; kernel_rfl
  have q9 : ∀ w, (binOp .eql 33 (.agg (arrB m.sig)) (.agg (arrB n.sig))).run Tryd.prog w = .ok (.bool false) w := fun w => by rw [eqlG 33 64 Tryd.underlying33 m.sig n.sig h1.sig.1 h2.sig.1]; rw [beq_eq_false_iff_ne.2 e9.out]
  clear hX hY h1 h2
  go_enter Tryd.func13, Tryd.ntmps13
  go_upto_region 1 with fail
  generalize ((w.alloc (.cells c1 36)).alloc (.cells c2 36)) = W at *
  go_step
  refine wpList_step (fun K hK => ?_); go_simp; refine hK _ _ ?_; clear hK
  refine wpList_step (fun K hK => ?_); go_simp; refine hK _ _ ?_; clear hK
  refine wpList_step (fun K hK => ?_); go_simp; refine hK _ _ ?_; clear hK
  refine wpList_step (fun K hK => ?_); go_simp; refine hK _ _ ?_; clear hK
  refine wpList_step (fun K hK => ?_); go_simp; refine hK _ _ ?_; clear hK
  refine wpList_step (fun K hK => ?_); go_simp; refine hK _ _ ?_; clear hK
  refine wpList_step (fun K hK => ?_); go_simp; refine hK _ _ ?_; clear hK
  apply wpList_loadG (hc := x1.out) (hu := Tryd.underlying26) (hi := i1); (case ho => exact rfl); (case hx => exact rfl); (case hd => rfl); (case hw => simp [Region.wanted, yielded])
  refine wpList_step (fun K hK => ?_); go_simp; refine hK _ _ ?_; clear hK
  apply wpList_loadG (hc := y1.out) (hu := Tryd.underlying26) (hi := g1); (case ho => exact rfl); (case hx => exact rfl); (case hd => rfl); (case hw => simp [Region.wanted, yielded])
  refine wpList_step (fun K hK => ?_); go_simp; refine hK _ _ ?_; clear hK
  refine wpList_step (fun K hK => ?_); go_simp; refine hK _ _ ?_; clear hK
  refine wpList_step (fun K hK => ?_); go_simp; refine hK _ _ ?_; clear hK
  refine wpList_step (fun K hK => ?_); go_simp; refine hK _ _ ?_; clear hK
  refine wpList_step (fun K hK => ?_); go_simp; refine hK _ _ ?_; clear hK
  refine wpList_step (fun K hK => ?_); go_simp; refine hK _ _ ?_; clear hK
  refine wpList_step (fun K hK => ?_); go_simp; refine hK _ _ ?_; clear hK
  refine wpList_step (fun K hK => ?_); go_simp; refine hK _ _ ?_; clear hK
  refine wpList_step (fun K hK => ?_); go_simp; refine hK _ _ ?_; clear hK
  refine wpList_step (fun K hK => ?_); go_simp; refine hK _ _ ?_; clear hK
  refine wpList_step (fun K hK => ?_); go_simp; refine hK _ _ ?_; clear hK
  refine wpList_step (fun K hK => ?_); go_simp; refine hK _ _ ?_; clear hK
  refine wpList_step (fun K hK => ?_); go_simp; refine hK _ _ ?_; clear hK
  refine wpList_step (fun K hK => ?_); go_simp; refine hK _ _ ?_; clear hK
  refine wpList_step (fun K hK => ?_); go_simp; refine hK _ _ ?_; clear hK
  refine wpList_step (fun K hK => ?_); go_simp; refine hK _ _ ?_; clear hK
  refine wpList_step (fun K hK => ?_); go_simp; refine hK _ _ ?_; clear hK
  refine wpList_step (fun K hK => ?_); go_simp; refine hK _ _ ?_; clear hK
  apply wpList_loadG (hc := x4.out) (hu := Tryd.underlying29) (hi := i4); (case ho => exact rfl); (case hx => exact rfl); (case hd => rfl); (case hw => simp [Region.wanted, yielded])
  refine wpList_step (fun K hK => ?_); go_simp; refine hK _ _ ?_; clear hK
  apply wpList_loadG (hc := y4.out) (hu := Tryd.underlying29) (hi := g4); (case ho => exact rfl); (case hx => exact rfl); (case hd => rfl); (case hw => simp [Region.wanted, yielded])
  refine wpList_step (fun K hK => ?_); go_simp; refine hK _ _ ?_; clear hK
  refine wpList_step (fun K hK => ?_); go_simp; refine hK _ _ ?_; clear hK
  refine wpList_step (fun K hK => ?_); go_simp; refine hK _ _ ?_; clear hK
  refine wpList_step (fun K hK => ?_); go_simp; refine hK _ _ ?_; clear hK
  refine wpList_step (fun K hK => ?_); go_simp; refine hK _ _ ?_; clear hK
  refine wpList_step (fun K hK => ?_); go_simp; refine hK _ _ ?_; clear hK
  refine wpList_step (fun K hK => ?_); go_simp; refine hK _ _ ?_; clear hK
  have hc := sameCommitments_any LA LB lc ld m.list n.list W hM.out.list hN.out.list hM.out.pok hN.out.pok hM.out.lsz hN.out.lsz
  rw [decide_eq_true e5.out] at hc
  replace hc := Lib.hid hc
  refine wpList_step (fun K hK => ?_); go_simp
  go_at_call 48
  refine hc.out.mono ?_
  rintro e w7 ⟨rfl, a5, hw5⟩
  refine hK _ _ ?_
  clear hK
  replace k101 : w7.cell? ⟨w.heap.size, 101, none⟩ = some (.slice TA m.text.length tc) := by rw [hw5]; exact k101
  replace j101 : w7.cell? ⟨w.heap.size + 1, 101, none⟩ = some (.slice TB n.text.length td) := by rw [hw5]; exact j101
  replace x7 : Hid (RowAt w7 w.heap.size 102 (arrB m.bind_)) := Lib.hid (by rw [hw5]; exact x7.out)
  replace y7 : Hid (RowAt w7 (w.heap.size + 1) 102 (arrB n.bind_)) := Lib.hid (by rw [hw5]; exact y7.out)
  replace x8 : Hid (RowAt w7 w.heap.size 134 (arrB m.share)) := Lib.hid (by rw [hw5]; exact x8.out)
  replace y8 : Hid (RowAt w7 (w.heap.size + 1) 134 (arrB n.share)) := Lib.hid (by rw [hw5]; exact y8.out)
  replace x9 : Hid (RowAt w7 w.heap.size 166 (arrB m.sig)) := Lib.hid (by rw [hw5]; exact x9.out)
  replace y9 : Hid (RowAt w7 (w.heap.size + 1) 166 (arrB n.sig)) := Lib.hid (by rw [hw5]; exact y9.out)
  replace hM : Hid (MsgIn w7 c1 m LA lc TA tc) := Lib.hid (by rw [hw5]; exact (hM.out.on (below_drewN (Below.refl _ _) _)))
  replace hN : Hid (MsgIn w7 c2 n LB ld TB td) := Lib.hid (by rw [hw5]; exact (hN.out.on (below_drewN (Below.refl _ _) _)))
  replace hB : Hid (Below w.heap.size w w7) := Lib.hid (by rw [hw5]; exact below_drewN hB.out _)
  replace hw5 := Lib.hid hw5
  refine wpList_step (fun K hK => ?_); go_simp; refine hK _ _ ?_; clear hK
  refine wpList_step (fun K hK => ?_); go_simp; refine hK _ _ ?_; clear hK
  refine wpList_step (fun K hK => ?_); go_simp; refine hK _ _ ?_; clear hK
  refine wpList_step (fun K hK => ?_); go_simp; refine hK _ _ ?_; clear hK
  refine wpList_step (fun K hK => ?_); go_simp; refine hK _ _ ?_; clear hK
  refine wpList_step (fun K hK => ?_); go_simp; refine hK _ _ ?_; clear hK
  have hc := sameBytes_any TA TB tc td m.text n.text w7 hM.out.text hN.out.text hM.out.tsz hN.out.tsz
  rw [decide_eq_true e6.out] at hc
  replace hc := Lib.hid hc
  refine wpList_step (fun K hK => ?_); go_simp
  go_at_call 19
  refine hc.out.mono ?_
  rintro e w8 ⟨rfl, a6, hw6⟩
  refine hK _ _ ?_
  clear hK
  replace x7 : Hid (RowAt w8 w.heap.size 102 (arrB m.bind_)) := Lib.hid (by rw [hw6]; exact x7.out)
  replace y7 : Hid (RowAt w8 (w.heap.size + 1) 102 (arrB n.bind_)) := Lib.hid (by rw [hw6]; exact y7.out)
  replace x8 : Hid (RowAt w8 w.heap.size 134 (arrB m.share)) := Lib.hid (by rw [hw6]; exact x8.out)
  replace y8 : Hid (RowAt w8 (w.heap.size + 1) 134 (arrB n.share)) := Lib.hid (by rw [hw6]; exact y8.out)
  replace x9 : Hid (RowAt w8 w.heap.size 166 (arrB m.sig)) := Lib.hid (by rw [hw6]; exact x9.out)
  replace y9 : Hid (RowAt w8 (w.heap.size + 1) 166 (arrB n.sig)) := Lib.hid (by rw [hw6]; exact y9.out)
  replace hM : Hid (MsgIn w8 c1 m LA lc TA tc) := Lib.hid (by rw [hw6]; exact (hM.out.on (below_drewN (Below.refl _ _) _)))
  replace hN : Hid (MsgIn w8 c2 n LB ld TB td) := Lib.hid (by rw [hw6]; exact (hN.out.on (below_drewN (Below.refl _ _) _)))
  replace hB : Hid (Below w.heap.size w w8) := Lib.hid (by rw [hw6]; exact below_drewN hB.out _)
  replace hw6 := Lib.hid hw6
  refine wpList_step (fun K hK => ?_); go_simp; refine hK _ _ ?_; clear hK
  refine wpList_step (fun K hK => ?_); go_simp; refine hK _ _ ?_; clear hK
  refine wpList_step (fun K hK => ?_); go_simp; refine hK _ _ ?_; clear hK
  apply wpList_loadG (hc := x7.out) (hu := Tryd.underlying26) (hi := i7); (case ho => exact rfl); (case hx => exact rfl); (case hd => rfl); (case hw => simp [Region.wanted, yielded])
  refine wpList_step (fun K hK => ?_); go_simp; refine hK _ _ ?_; clear hK
  apply wpList_loadG (hc := y7.out) (hu := Tryd.underlying26) (hi := g7); (case ho => exact rfl); (case hx => exact rfl); (case hd => rfl); (case hw => simp [Region.wanted, yielded])
  refine wpList_step (fun K hK => ?_); go_simp; refine hK _ _ ?_; clear hK
  refine wpList_step (fun K hK => ?_); go_simp; refine hK _ _ ?_; clear hK
  refine wpList_step (fun K hK => ?_); go_simp; refine hK _ _ ?_; clear hK
  refine wpList_step (fun K hK => ?_); go_simp; refine hK _ _ ?_; clear hK
  apply wpList_loadG (hc := x8.out) (hu := Tryd.underlying31) (hi := i8); (case ho => exact rfl); (case hx => exact rfl); (case hd => rfl); (case hw => simp [Region.wanted, yielded])
  refine wpList_step (fun K hK => ?_); go_simp; refine hK _ _ ?_; clear hK
  apply wpList_loadG (hc := y8.out) (hu := Tryd.underlying31) (hi := g8); (case ho => exact rfl); (case hx => exact rfl); (case hd => rfl); (case hw => simp [Region.wanted, yielded])
  refine wpList_step (fun K hK => ?_); go_simp; refine hK _ _ ?_; clear hK
  refine wpList_step (fun K hK => ?_); go_simp; refine hK _ _ ?_; clear hK
  refine wpList_step (fun K hK => ?_); go_simp; refine hK _ _ ?_; clear hK
  refine wpList_step (fun K hK => ?_); go_simp; refine hK _ _ ?_; clear hK
  apply wpList_loadG (hc := x9.out) (hu := Tryd.underlying33) (hi := i9); (case ho => exact rfl); (case hx => exact rfl); (case hd => rfl); (case hw => simp [Region.wanted, yielded])
  refine wpList_step (fun K hK => ?_); go_simp; refine hK _ _ ?_; clear hK
  apply wpList_loadG (hc := y9.out) (hu := Tryd.underlying33) (hi := g9); (case ho => exact rfl); (case hx => exact rfl); (case hd => rfl); (case hw => simp [Region.wanted, yielded])
  refine wpList_step (fun K hK => ?_); go_simp; refine hK _ _ ?_; clear hK
  refine wpList_step (fun K hK => ?_); go_simp; refine hK _ _ ?_; clear hK
  refine wpList_step (fun K hK => ?_); go_simp; refine hK _ _ ?_; clear hK
  refine wpList_step (fun K hK => ?_); go_simp; refine hK _ _ ?_; clear hK
  refine wpList_step (fun K hK => ?_); go_simp; refine hK _ _ ?_; clear hK
  refine wpList_step (fun K hK => ?_); go_simp; refine hK _ _ ?_; clear hK
  refine wpList_step (fun K hK => ?_); go_simp; refine hK _ _ ?_; clear hK
  refine wpList_step (fun K hK => ?_); go_simp; refine hK _ _ ?_; clear hK
  refine wpList_step (fun K hK => ?_); go_simp; refine hK _ _ ?_; clear hK
  refine wpList_step (fun K hK => ?_); go_simp; refine hK _ _ ?_; clear hK
  refine wpList_nil ?_
  go_wp2_with fail
  go_ret
  exact ⟨rfl, hB.out⟩

set_option maxHeartbeats 16000000 in
theorem sm_10 (c1 c2 : Array Value) (m n : Msg) (LA : Option Addr) (lc : Nat) (TA : Option Addr) (tc : Nat) (LB : Option Addr) (ld : Nat) (TB : Option Addr) (td : Nat) (w : World) (hM : MsgIn w c1 m LA lc TA tc) (hN : MsgIn w c2 n LB ld TB td) (e0 : m.kind = n.kind) (e1 : m.session = n.session) (e2 : m.from_ = n.from_) (e3 : m.to_ = n.to_) (e4 : m.pair = n.pair) (e5 : m.list = n.list) (e6 : m.text = n.text) (e7 : m.bind_ = n.bind_) (e8 : m.share = n.share) (e9 : m.sig = n.sig) (e10 : m.code ≠ n.code) : Calls Tryd.prog 13 #[.agg c1, .agg c2] w fun e w' => e = .returned (.bool false) ∧ Below w.heap.size w w' := by
  have hX : ((w.alloc (.cells c1 36)).alloc (.cells c2 36)).heap[w.heap.size]? = some (.cells c1 36 (0, 0)) := by
    rw [heap_alloc?, if_neg (by simp)]; exact heap_alloc_new w _
  have hY : ((w.alloc (.cells c1 36)).alloc (.cells c2 36)).heap[w.heap.size + 1]? = some (.cells c2 36 (0, 0)) := by
    rw [heap_alloc?, if_pos (by simp)]
  have hB : Below w.heap.size w ((w.alloc (.cells c1 36)).alloc (.cells c2 36)) := later (boxed _ _) (boxed _ _)
  have h1 := hM.cells
  have h2 := hN.cells
  replace hM := Lib.hid (hM.on hB)
  replace hN := Lib.hid (hN.on hB)
  replace hB := Lib.hid hB
  replace e0 := Lib.hid e0
  replace e1 := Lib.hid e1
  replace e2 := Lib.hid e2
  replace e3 := Lib.hid e3
  replace e4 := Lib.hid e4
  replace e5 := Lib.hid e5
  replace e6 := Lib.hid e6
  replace e7 := Lib.hid e7
  replace e8 := Lib.hid e8
  replace e9 := Lib.hid e9
  replace e10 := Lib.hid e10
  have k0 := cell_of hX h1.kind
  have j0 := cell_of hY h2.kind
  have f0 : (m.kind == n.kind) = true := beq_iff_eq.2 e0.out
  have x1 := Lib.hid (rowAt_of hX h1.session)
  have y1 := Lib.hid (rowAt_of hY h2.session)
  have i1 : (Tryd.prog.info? 26).map (·.size) = some (arrB m.session).size := by rw [show (arrB m.session).size = 32 from by simp [arrB, h1.session.1]]; kernel_rfl
  have g1 : (Tryd.prog.info? 26).map (·.size) = some (arrB n.session).size := by rw [show (arrB n.session).size = 32 from by simp [arrB, h2.session.1]]; kernel_rfl
  have q1 : ∀ w, (binOp .eql 26 (.agg (arrB m.session)) (.agg (arrB n.session))).run Tryd.prog w = .ok (.bool true) w := fun w => by rw [eqlG 26 32 Tryd.underlying26 m.session n.session h1.session.1 h2.session.1]; rw [beq_iff_eq.2 e1.out]
  have k33 := cell_of hX h1.from_
  have j33 := cell_of hY h2.from_
  have f2 : (m.from_ == n.from_) = true := beq_iff_eq.2 e2.out
  have k34 := cell_of hX h1.to_
  have j34 := cell_of hY h2.to_
  have f3 : (m.to_ == n.to_) = true := beq_iff_eq.2 e3.out
  have x4 := Lib.hid (pairAt_of hX h1)
  have y4 := Lib.hid (pairAt_of hY h2)
  have pm : PairOk m.pair := ⟨h1.hid.1, h1.bnd.1⟩
  have pn : PairOk n.pair := ⟨h2.hid.1, h2.bnd.1⟩
  have i4 : (Tryd.prog.info? 29).map (·.size) = some (pairA m.pair).size := by rw [pairA_size pm]; kernel_rfl
  have g4 : (Tryd.prog.info? 29).map (·.size) = some (pairA n.pair).size := by rw [pairA_size pn]; kernel_rfl
  have q4 : ∀ w, (binOp .eql 29 (.agg (pairA m.pair)) (.agg (pairA n.pair))).run Tryd.prog w = .ok (.bool true) w := fun w => by rw [eqlPG m.pair n.pair pm pn w]; rw [decide_eq_true e4.out]
  clear pm pn
  have k100 := cell_of hX h1.list
  have j100 := cell_of hY h2.list
  have k101 := cell_of hX h1.text
  have j101 := cell_of hY h2.text
  have x7 := Lib.hid (rowAt_of hX h1.bind_)
  have y7 := Lib.hid (rowAt_of hY h2.bind_)
  have i7 : (Tryd.prog.info? 26).map (·.size) = some (arrB m.bind_).size := by rw [show (arrB m.bind_).size = 32 from by simp [arrB, h1.bind_.1]]; kernel_rfl
  have g7 : (Tryd.prog.info? 26).map (·.size) = some (arrB n.bind_).size := by rw [show (arrB n.bind_).size = 32 from by simp [arrB, h2.bind_.1]]; kernel_rfl
  have q7 : ∀ w, (binOp .eql 26 (.agg (arrB m.bind_)) (.agg (arrB n.bind_))).run Tryd.prog w = .ok (.bool true) w := fun w => by rw [eqlG 26 32 Tryd.underlying26 m.bind_ n.bind_ h1.bind_.1 h2.bind_.1]; rw [beq_iff_eq.2 e7.out]
  have x8 := Lib.hid (rowAt_of hX h1.share)
  have y8 := Lib.hid (rowAt_of hY h2.share)
  have i8 : (Tryd.prog.info? 31).map (·.size) = some (arrB m.share).size := by rw [show (arrB m.share).size = 32 from by simp [arrB, h1.share.1]]; kernel_rfl
  have g8 : (Tryd.prog.info? 31).map (·.size) = some (arrB n.share).size := by rw [show (arrB n.share).size = 32 from by simp [arrB, h2.share.1]]; kernel_rfl
  have q8 : ∀ w, (binOp .eql 31 (.agg (arrB m.share)) (.agg (arrB n.share))).run Tryd.prog w = .ok (.bool true) w := fun w => by rw [eqlG 31 32 Tryd.underlying31 m.share n.share h1.share.1 h2.share.1]; rw [beq_iff_eq.2 e8.out]
  have x9 := Lib.hid (rowAt_of hX h1.sig)
  have y9 := Lib.hid (rowAt_of hY h2.sig)
  have i9 : (Tryd.prog.info? 33).map (·.size) = some (arrB m.sig).size := by rw [show (arrB m.sig).size = 64 from by simp [arrB, h1.sig.1]]; kernel_rfl
  have g9 : (Tryd.prog.info? 33).map (·.size) = some (arrB n.sig).size := by rw [show (arrB n.sig).size = 64 from by simp [arrB, h2.sig.1]]; kernel_rfl
  have q9 : ∀ w, (binOp .eql 33 (.agg (arrB m.sig)) (.agg (arrB n.sig))).run Tryd.prog w = .ok (.bool true) w := fun w => by rw [eqlG 33 64 Tryd.underlying33 m.sig n.sig h1.sig.1 h2.sig.1]; rw [beq_iff_eq.2 e9.out]
  have k230 := cell_of hX h1.code
  have j230 := cell_of hY h2.code
  have f10 : (m.code == n.code) = false := beq_eq_false_iff_ne.2 e10.out
  clear hX hY h1 h2
  go_enter Tryd.func13, Tryd.ntmps13
  go_upto_region 1 with fail
  generalize ((w.alloc (.cells c1 36)).alloc (.cells c2 36)) = W at *
  go_step
  refine wpList_step (fun K hK => ?_); go_simp; refine hK _ _ ?_; clear hK
  refine wpList_step (fun K hK => ?_); go_simp; refine hK _ _ ?_; clear hK
  refine wpList_step (fun K hK => ?_); go_simp; refine hK _ _ ?_; clear hK
  refine wpList_step (fun K hK => ?_); go_simp; refine hK _ _ ?_; clear hK
  refine wpList_step (fun K hK => ?_); go_simp; refine hK _ _ ?_; clear hK
  refine wpList_step (fun K hK => ?_); go_simp; refine hK _ _ ?_; clear hK
  refine wpList_step (fun K hK => ?_); go_simp; refine hK _ _ ?_; clear hK
  apply wpList_loadG (hc := x1.out) (hu := Tryd.underlying26) (hi := i1); (case ho => exact rfl); (case hx => exact rfl); (case hd => rfl); (case hw => simp [Region.wanted, yielded])
  refine wpList_step (fun K hK => ?_); go_simp; refine hK _ _ ?_; clear hK
  apply wpList_loadG (hc := y1.out) (hu := Tryd.underlying26) (hi := g1); (case ho => exact rfl); (case hx => exact rfl); (case hd => rfl); (case hw => simp [Region.wanted, yielded])
  refine wpList_step (fun K hK => ?_); go_simp; refine hK _ _ ?_; clear hK
  refine wpList_step (fun K hK => ?_); go_simp; refine hK _ _ ?_; clear hK
  refine wpList_step (fun K hK => ?_); go_simp; refine hK _ _ ?_; clear hK
  refine wpList_step (fun K hK => ?_); go_simp; refine hK _ _ ?_; clear hK
  refine wpList_step (fun K hK => ?_); go_simp; refine hK _ _ ?_; clear hK
  refine wpList_step (fun K hK => ?_); go_simp; refine hK _ _ ?_; clear hK
  refine wpList_step (fun K hK => ?_); go_simp; refine hK _ _ ?_; clear hK
  refine wpList_step (fun K hK => ?_); go_simp; refine hK _ _ ?_; clear hK
  refine wpList_step (fun K hK => ?_); go_simp; refine hK _ _ ?_; clear hK
  refine wpList_step (fun K hK => ?_); go_simp; refine hK _ _ ?_; clear hK
  refine wpList_step (fun K hK => ?_); go_simp; refine hK _ _ ?_; clear hK
  refine wpList_step (fun K hK => ?_); go_simp; refine hK _ _ ?_; clear hK
  refine wpList_step (fun K hK => ?_); go_simp; refine hK _ _ ?_; clear hK
  refine wpList_step (fun K hK => ?_); go_simp; refine hK _ _ ?_; clear hK
  refine wpList_step (fun K hK => ?_); go_simp; refine hK _ _ ?_; clear hK
  refine wpList_step (fun K hK => ?_); go_simp; refine hK _ _ ?_; clear hK
  refine wpList_step (fun K hK => ?_); go_simp; refine hK _ _ ?_; clear hK
  refine wpList_step (fun K hK => ?_); go_simp; refine hK _ _ ?_; clear hK
  apply wpList_loadG (hc := x4.out) (hu := Tryd.underlying29) (hi := i4); (case ho => exact rfl); (case hx => exact rfl); (case hd => rfl); (case hw => simp [Region.wanted, yielded])
  refine wpList_step (fun K hK => ?_); go_simp; refine hK _ _ ?_; clear hK
  apply wpList_loadG (hc := y4.out) (hu := Tryd.underlying29) (hi := g4); (case ho => exact rfl); (case hx => exact rfl); (case hd => rfl); (case hw => simp [Region.wanted, yielded])
  refine wpList_step (fun K hK => ?_); go_simp; refine hK _ _ ?_; clear hK
  refine wpList_step (fun K hK => ?_); go_simp; refine hK _ _ ?_; clear hK
  refine wpList_step (fun K hK => ?_); go_simp; refine hK _ _ ?_; clear hK
  refine wpList_step (fun K hK => ?_); go_simp; refine hK _ _ ?_; clear hK
  refine wpList_step (fun K hK => ?_); go_simp; refine hK _ _ ?_; clear hK
  refine wpList_step (fun K hK => ?_); go_simp; refine hK _ _ ?_; clear hK
  refine wpList_step (fun K hK => ?_); go_simp; refine hK _ _ ?_; clear hK
  have hc := sameCommitments_any LA LB lc ld m.list n.list W hM.out.list hN.out.list hM.out.pok hN.out.pok hM.out.lsz hN.out.lsz
  rw [decide_eq_true e5.out] at hc
  replace hc := Lib.hid hc
  refine wpList_step (fun K hK => ?_); go_simp
  go_at_call 48
  refine hc.out.mono ?_
  rintro e w7 ⟨rfl, a5, hw5⟩
  refine hK _ _ ?_
  clear hK
  replace k101 : w7.cell? ⟨w.heap.size, 101, none⟩ = some (.slice TA m.text.length tc) := by rw [hw5]; exact k101
  replace j101 : w7.cell? ⟨w.heap.size + 1, 101, none⟩ = some (.slice TB n.text.length td) := by rw [hw5]; exact j101
  replace x7 : Hid (RowAt w7 w.heap.size 102 (arrB m.bind_)) := Lib.hid (by rw [hw5]; exact x7.out)
  replace y7 : Hid (RowAt w7 (w.heap.size + 1) 102 (arrB n.bind_)) := Lib.hid (by rw [hw5]; exact y7.out)
  replace x8 : Hid (RowAt w7 w.heap.size 134 (arrB m.share)) := Lib.hid (by rw [hw5]; exact x8.out)
  replace y8 : Hid (RowAt w7 (w.heap.size + 1) 134 (arrB n.share)) := Lib.hid (by rw [hw5]; exact y8.out)
  replace x9 : Hid (RowAt w7 w.heap.size 166 (arrB m.sig)) := Lib.hid (by rw [hw5]; exact x9.out)
  replace y9 : Hid (RowAt w7 (w.heap.size + 1) 166 (arrB n.sig)) := Lib.hid (by rw [hw5]; exact y9.out)
  replace k230 : w7.cell? ⟨w.heap.size, 230, none⟩ = some (.int .i64 m.code) := by rw [hw5]; exact k230
  replace j230 : w7.cell? ⟨w.heap.size + 1, 230, none⟩ = some (.int .i64 n.code) := by rw [hw5]; exact j230
  replace hM : Hid (MsgIn w7 c1 m LA lc TA tc) := Lib.hid (by rw [hw5]; exact (hM.out.on (below_drewN (Below.refl _ _) _)))
  replace hN : Hid (MsgIn w7 c2 n LB ld TB td) := Lib.hid (by rw [hw5]; exact (hN.out.on (below_drewN (Below.refl _ _) _)))
  replace hB : Hid (Below w.heap.size w w7) := Lib.hid (by rw [hw5]; exact below_drewN hB.out _)
  replace hw5 := Lib.hid hw5
  refine wpList_step (fun K hK => ?_); go_simp; refine hK _ _ ?_; clear hK
  refine wpList_step (fun K hK => ?_); go_simp; refine hK _ _ ?_; clear hK
  refine wpList_step (fun K hK => ?_); go_simp; refine hK _ _ ?_; clear hK
  refine wpList_step (fun K hK => ?_); go_simp; refine hK _ _ ?_; clear hK
  refine wpList_step (fun K hK => ?_); go_simp; refine hK _ _ ?_; clear hK
  refine wpList_step (fun K hK => ?_); go_simp; refine hK _ _ ?_; clear hK
  have hc := sameBytes_any TA TB tc td m.text n.text w7 hM.out.text hN.out.text hM.out.tsz hN.out.tsz
  rw [decide_eq_true e6.out] at hc
  replace hc := Lib.hid hc
  refine wpList_step (fun K hK => ?_); go_simp
  go_at_call 19
  refine hc.out.mono ?_
  rintro e w8 ⟨rfl, a6, hw6⟩
  refine hK _ _ ?_
  clear hK
  replace x7 : Hid (RowAt w8 w.heap.size 102 (arrB m.bind_)) := Lib.hid (by rw [hw6]; exact x7.out)
  replace y7 : Hid (RowAt w8 (w.heap.size + 1) 102 (arrB n.bind_)) := Lib.hid (by rw [hw6]; exact y7.out)
  replace x8 : Hid (RowAt w8 w.heap.size 134 (arrB m.share)) := Lib.hid (by rw [hw6]; exact x8.out)
  replace y8 : Hid (RowAt w8 (w.heap.size + 1) 134 (arrB n.share)) := Lib.hid (by rw [hw6]; exact y8.out)
  replace x9 : Hid (RowAt w8 w.heap.size 166 (arrB m.sig)) := Lib.hid (by rw [hw6]; exact x9.out)
  replace y9 : Hid (RowAt w8 (w.heap.size + 1) 166 (arrB n.sig)) := Lib.hid (by rw [hw6]; exact y9.out)
  replace k230 : w8.cell? ⟨w.heap.size, 230, none⟩ = some (.int .i64 m.code) := by rw [hw6]; exact k230
  replace j230 : w8.cell? ⟨w.heap.size + 1, 230, none⟩ = some (.int .i64 n.code) := by rw [hw6]; exact j230
  replace hM : Hid (MsgIn w8 c1 m LA lc TA tc) := Lib.hid (by rw [hw6]; exact (hM.out.on (below_drewN (Below.refl _ _) _)))
  replace hN : Hid (MsgIn w8 c2 n LB ld TB td) := Lib.hid (by rw [hw6]; exact (hN.out.on (below_drewN (Below.refl _ _) _)))
  replace hB : Hid (Below w.heap.size w w8) := Lib.hid (by rw [hw6]; exact below_drewN hB.out _)
  replace hw6 := Lib.hid hw6
  refine wpList_step (fun K hK => ?_); go_simp; refine hK _ _ ?_; clear hK
  refine wpList_step (fun K hK => ?_); go_simp; refine hK _ _ ?_; clear hK
  refine wpList_step (fun K hK => ?_); go_simp; refine hK _ _ ?_; clear hK
  apply wpList_loadG (hc := x7.out) (hu := Tryd.underlying26) (hi := i7); (case ho => exact rfl); (case hx => exact rfl); (case hd => rfl); (case hw => simp [Region.wanted, yielded])
  refine wpList_step (fun K hK => ?_); go_simp; refine hK _ _ ?_; clear hK
  apply wpList_loadG (hc := y7.out) (hu := Tryd.underlying26) (hi := g7); (case ho => exact rfl); (case hx => exact rfl); (case hd => rfl); (case hw => simp [Region.wanted, yielded])
  refine wpList_step (fun K hK => ?_); go_simp; refine hK _ _ ?_; clear hK
  refine wpList_step (fun K hK => ?_); go_simp; refine hK _ _ ?_; clear hK
  refine wpList_step (fun K hK => ?_); go_simp; refine hK _ _ ?_; clear hK
  refine wpList_step (fun K hK => ?_); go_simp; refine hK _ _ ?_; clear hK
  apply wpList_loadG (hc := x8.out) (hu := Tryd.underlying31) (hi := i8); (case ho => exact rfl); (case hx => exact rfl); (case hd => rfl); (case hw => simp [Region.wanted, yielded])
  refine wpList_step (fun K hK => ?_); go_simp; refine hK _ _ ?_; clear hK
  apply wpList_loadG (hc := y8.out) (hu := Tryd.underlying31) (hi := g8); (case ho => exact rfl); (case hx => exact rfl); (case hd => rfl); (case hw => simp [Region.wanted, yielded])
  refine wpList_step (fun K hK => ?_); go_simp; refine hK _ _ ?_; clear hK
  refine wpList_step (fun K hK => ?_); go_simp; refine hK _ _ ?_; clear hK
  refine wpList_step (fun K hK => ?_); go_simp; refine hK _ _ ?_; clear hK
  refine wpList_step (fun K hK => ?_); go_simp; refine hK _ _ ?_; clear hK
  apply wpList_loadG (hc := x9.out) (hu := Tryd.underlying33) (hi := i9); (case ho => exact rfl); (case hx => exact rfl); (case hd => rfl); (case hw => simp [Region.wanted, yielded])
  refine wpList_step (fun K hK => ?_); go_simp; refine hK _ _ ?_; clear hK
  apply wpList_loadG (hc := y9.out) (hu := Tryd.underlying33) (hi := g9); (case ho => exact rfl); (case hx => exact rfl); (case hd => rfl); (case hw => simp [Region.wanted, yielded])
  refine wpList_step (fun K hK => ?_); go_simp; refine hK _ _ ?_; clear hK
  refine wpList_step (fun K hK => ?_); go_simp; refine hK _ _ ?_; clear hK
  refine wpList_step (fun K hK => ?_); go_simp; refine hK _ _ ?_; clear hK
  refine wpList_step (fun K hK => ?_); go_simp; refine hK _ _ ?_; clear hK
  refine wpList_step (fun K hK => ?_); go_simp; refine hK _ _ ?_; clear hK
  refine wpList_step (fun K hK => ?_); go_simp; refine hK _ _ ?_; clear hK
  refine wpList_step (fun K hK => ?_); go_simp; refine hK _ _ ?_; clear hK
  refine wpList_step (fun K hK => ?_); go_simp; refine hK _ _ ?_; clear hK
  refine wpList_step (fun K hK => ?_); go_simp; refine hK _ _ ?_; clear hK
  refine wpList_step (fun K hK => ?_); go_simp; refine hK _ _ ?_; clear hK
  refine wpList_nil ?_
  go_wp2_with fail
  go_ret
  exact ⟨rfl, hB.out⟩

set_option maxHeartbeats 16000000 in
theorem sm_11 (c1 c2 : Array Value) (m n : Msg) (LA : Option Addr) (lc : Nat) (TA : Option Addr) (tc : Nat) (LB : Option Addr) (ld : Nat) (TB : Option Addr) (td : Nat) (w : World) (hM : MsgIn w c1 m LA lc TA tc) (hN : MsgIn w c2 n LB ld TB td) (e0 : m.kind = n.kind) (e1 : m.session = n.session) (e2 : m.from_ = n.from_) (e3 : m.to_ = n.to_) (e4 : m.pair = n.pair) (e5 : m.list = n.list) (e6 : m.text = n.text) (e7 : m.bind_ = n.bind_) (e8 : m.share = n.share) (e9 : m.sig = n.sig) (e10 : m.code = n.code) : Calls Tryd.prog 13 #[.agg c1, .agg c2] w fun e w' => e = .returned (.bool true) ∧ Below w.heap.size w w' := by
  have hX : ((w.alloc (.cells c1 36)).alloc (.cells c2 36)).heap[w.heap.size]? = some (.cells c1 36 (0, 0)) := by
    rw [heap_alloc?, if_neg (by simp)]; exact heap_alloc_new w _
  have hY : ((w.alloc (.cells c1 36)).alloc (.cells c2 36)).heap[w.heap.size + 1]? = some (.cells c2 36 (0, 0)) := by
    rw [heap_alloc?, if_pos (by simp)]
  have hB : Below w.heap.size w ((w.alloc (.cells c1 36)).alloc (.cells c2 36)) := later (boxed _ _) (boxed _ _)
  have h1 := hM.cells
  have h2 := hN.cells
  replace hM := Lib.hid (hM.on hB)
  replace hN := Lib.hid (hN.on hB)
  replace hB := Lib.hid hB
  replace e0 := Lib.hid e0
  replace e1 := Lib.hid e1
  replace e2 := Lib.hid e2
  replace e3 := Lib.hid e3
  replace e4 := Lib.hid e4
  replace e5 := Lib.hid e5
  replace e6 := Lib.hid e6
  replace e7 := Lib.hid e7
  replace e8 := Lib.hid e8
  replace e9 := Lib.hid e9
  replace e10 := Lib.hid e10
  have k0 := cell_of hX h1.kind
  have j0 := cell_of hY h2.kind
  have f0 : (m.kind == n.kind) = true := beq_iff_eq.2 e0.out
  have x1 := Lib.hid (rowAt_of hX h1.session)
  have y1 := Lib.hid (rowAt_of hY h2.session)
  have i1 : (Tryd.prog.info? 26).map (·.size) = some (arrB m.session).size := by rw [show (arrB m.session).size = 32 from by simp [arrB, h1.session.1]]; kernel_rfl
  have g1 : (Tryd.prog.info? 26).map (·.size) = some (arrB n.session).size := by rw [show (arrB n.session).size = 32 from by simp [arrB, h2.session.1]]; kernel_rfl
  have q1 : ∀ w, (binOp .eql 26 (.agg (arrB m.session)) (.agg (arrB n.session))).run Tryd.prog w = .ok (.bool true) w := fun w => by rw [eqlG 26 32 Tryd.underlying26 m.session n.session h1.session.1 h2.session.1]; rw [beq_iff_eq.2 e1.out]
  have k33 := cell_of hX h1.from_
  have j33 := cell_of hY h2.from_
  have f2 : (m.from_ == n.from_) = true := beq_iff_eq.2 e2.out
  have k34 := cell_of hX h1.to_
  have j34 := cell_of hY h2.to_
  have f3 : (m.to_ == n.to_) = true := beq_iff_eq.2 e3.out
  have x4 := Lib.hid (pairAt_of hX h1)
  have y4 := Lib.hid (pairAt_of hY h2)
  have pm : PairOk m.pair := ⟨h1.hid.1, h1.bnd.1⟩
  have pn : PairOk n.pair := ⟨h2.hid.1, h2.bnd.1⟩
  have i4 : (Tryd.prog.info? 29).map (·.size) = some (pairA m.pair).size := by rw [pairA_size pm]; kernel_rfl
  have g4 : (Tryd.prog.info? 29).map (·.size) = some (pairA n.pair).size := by rw [pairA_size pn]; kernel_rfl
  have q4 : ∀ w, (binOp .eql 29 (.agg (pairA m.pair)) (.agg (pairA n.pair))).run Tryd.prog w = .ok (.bool true) w := fun w => by rw [eqlPG m.pair n.pair pm pn w]; rw [decide_eq_true e4.out]
  clear pm pn
  have k100 := cell_of hX h1.list
  have j100 := cell_of hY h2.list
  have k101 := cell_of hX h1.text
  have j101 := cell_of hY h2.text
  have x7 := Lib.hid (rowAt_of hX h1.bind_)
  have y7 := Lib.hid (rowAt_of hY h2.bind_)
  have i7 : (Tryd.prog.info? 26).map (·.size) = some (arrB m.bind_).size := by rw [show (arrB m.bind_).size = 32 from by simp [arrB, h1.bind_.1]]; kernel_rfl
  have g7 : (Tryd.prog.info? 26).map (·.size) = some (arrB n.bind_).size := by rw [show (arrB n.bind_).size = 32 from by simp [arrB, h2.bind_.1]]; kernel_rfl
  have q7 : ∀ w, (binOp .eql 26 (.agg (arrB m.bind_)) (.agg (arrB n.bind_))).run Tryd.prog w = .ok (.bool true) w := fun w => by rw [eqlG 26 32 Tryd.underlying26 m.bind_ n.bind_ h1.bind_.1 h2.bind_.1]; rw [beq_iff_eq.2 e7.out]
  have x8 := Lib.hid (rowAt_of hX h1.share)
  have y8 := Lib.hid (rowAt_of hY h2.share)
  have i8 : (Tryd.prog.info? 31).map (·.size) = some (arrB m.share).size := by rw [show (arrB m.share).size = 32 from by simp [arrB, h1.share.1]]; kernel_rfl
  have g8 : (Tryd.prog.info? 31).map (·.size) = some (arrB n.share).size := by rw [show (arrB n.share).size = 32 from by simp [arrB, h2.share.1]]; kernel_rfl
  have q8 : ∀ w, (binOp .eql 31 (.agg (arrB m.share)) (.agg (arrB n.share))).run Tryd.prog w = .ok (.bool true) w := fun w => by rw [eqlG 31 32 Tryd.underlying31 m.share n.share h1.share.1 h2.share.1]; rw [beq_iff_eq.2 e8.out]
  have x9 := Lib.hid (rowAt_of hX h1.sig)
  have y9 := Lib.hid (rowAt_of hY h2.sig)
  have i9 : (Tryd.prog.info? 33).map (·.size) = some (arrB m.sig).size := by rw [show (arrB m.sig).size = 64 from by simp [arrB, h1.sig.1]]; kernel_rfl
  have g9 : (Tryd.prog.info? 33).map (·.size) = some (arrB n.sig).size := by rw [show (arrB n.sig).size = 64 from by simp [arrB, h2.sig.1]]; kernel_rfl
  have q9 : ∀ w, (binOp .eql 33 (.agg (arrB m.sig)) (.agg (arrB n.sig))).run Tryd.prog w = .ok (.bool true) w := fun w => by rw [eqlG 33 64 Tryd.underlying33 m.sig n.sig h1.sig.1 h2.sig.1]; rw [beq_iff_eq.2 e9.out]
  have k230 := cell_of hX h1.code
  have j230 := cell_of hY h2.code
  have f10 : (m.code == n.code) = true := beq_iff_eq.2 e10.out
  clear hX hY h1 h2
  go_enter Tryd.func13, Tryd.ntmps13
  go_upto_region 1 with fail
  generalize ((w.alloc (.cells c1 36)).alloc (.cells c2 36)) = W at *
  go_step
  refine wpList_step (fun K hK => ?_); go_simp; refine hK _ _ ?_; clear hK
  refine wpList_step (fun K hK => ?_); go_simp; refine hK _ _ ?_; clear hK
  refine wpList_step (fun K hK => ?_); go_simp; refine hK _ _ ?_; clear hK
  refine wpList_step (fun K hK => ?_); go_simp; refine hK _ _ ?_; clear hK
  refine wpList_step (fun K hK => ?_); go_simp; refine hK _ _ ?_; clear hK
  refine wpList_step (fun K hK => ?_); go_simp; refine hK _ _ ?_; clear hK
  refine wpList_step (fun K hK => ?_); go_simp; refine hK _ _ ?_; clear hK
  apply wpList_loadG (hc := x1.out) (hu := Tryd.underlying26) (hi := i1); (case ho => exact rfl); (case hx => exact rfl); (case hd => rfl); (case hw => simp [Region.wanted, yielded])
  refine wpList_step (fun K hK => ?_); go_simp; refine hK _ _ ?_; clear hK
  apply wpList_loadG (hc := y1.out) (hu := Tryd.underlying26) (hi := g1); (case ho => exact rfl); (case hx => exact rfl); (case hd => rfl); (case hw => simp [Region.wanted, yielded])
  refine wpList_step (fun K hK => ?_); go_simp; refine hK _ _ ?_; clear hK
  refine wpList_step (fun K hK => ?_); go_simp; refine hK _ _ ?_; clear hK
  refine wpList_step (fun K hK => ?_); go_simp; refine hK _ _ ?_; clear hK
  refine wpList_step (fun K hK => ?_); go_simp; refine hK _ _ ?_; clear hK
  refine wpList_step (fun K hK => ?_); go_simp; refine hK _ _ ?_; clear hK
  refine wpList_step (fun K hK => ?_); go_simp; refine hK _ _ ?_; clear hK
  refine wpList_step (fun K hK => ?_); go_simp; refine hK _ _ ?_; clear hK
  refine wpList_step (fun K hK => ?_); go_simp; refine hK _ _ ?_; clear hK
  refine wpList_step (fun K hK => ?_); go_simp; refine hK _ _ ?_; clear hK
  refine wpList_step (fun K hK => ?_); go_simp; refine hK _ _ ?_; clear hK
  refine wpList_step (fun K hK => ?_); go_simp; refine hK _ _ ?_; clear hK
  refine wpList_step (fun K hK => ?_); go_simp; refine hK _ _ ?_; clear hK
  refine wpList_step (fun K hK => ?_); go_simp; refine hK _ _ ?_; clear hK
  refine wpList_step (fun K hK => ?_); go_simp; refine hK _ _ ?_; clear hK
  refine wpList_step (fun K hK => ?_); go_simp; refine hK _ _ ?_; clear hK
  refine wpList_step (fun K hK => ?_); go_simp; refine hK _ _ ?_; clear hK
  refine wpList_step (fun K hK => ?_); go_simp; refine hK _ _ ?_; clear hK
  refine wpList_step (fun K hK => ?_); go_simp; refine hK _ _ ?_; clear hK
  apply wpList_loadG (hc := x4.out) (hu := Tryd.underlying29) (hi := i4); (case ho => exact rfl); (case hx => exact rfl); (case hd => rfl); (case hw => simp [Region.wanted, yielded])
  refine wpList_step (fun K hK => ?_); go_simp; refine hK _ _ ?_; clear hK
  apply wpList_loadG (hc := y4.out) (hu := Tryd.underlying29) (hi := g4); (case ho => exact rfl); (case hx => exact rfl); (case hd => rfl); (case hw => simp [Region.wanted, yielded])
  refine wpList_step (fun K hK => ?_); go_simp; refine hK _ _ ?_; clear hK
  refine wpList_step (fun K hK => ?_); go_simp; refine hK _ _ ?_; clear hK
  refine wpList_step (fun K hK => ?_); go_simp; refine hK _ _ ?_; clear hK
  refine wpList_step (fun K hK => ?_); go_simp; refine hK _ _ ?_; clear hK
  refine wpList_step (fun K hK => ?_); go_simp; refine hK _ _ ?_; clear hK
  refine wpList_step (fun K hK => ?_); go_simp; refine hK _ _ ?_; clear hK
  refine wpList_step (fun K hK => ?_); go_simp; refine hK _ _ ?_; clear hK
  have hc := sameCommitments_any LA LB lc ld m.list n.list W hM.out.list hN.out.list hM.out.pok hN.out.pok hM.out.lsz hN.out.lsz
  rw [decide_eq_true e5.out] at hc
  replace hc := Lib.hid hc
  refine wpList_step (fun K hK => ?_); go_simp
  go_at_call 48
  refine hc.out.mono ?_
  rintro e w7 ⟨rfl, a5, hw5⟩
  refine hK _ _ ?_
  clear hK
  replace k101 : w7.cell? ⟨w.heap.size, 101, none⟩ = some (.slice TA m.text.length tc) := by rw [hw5]; exact k101
  replace j101 : w7.cell? ⟨w.heap.size + 1, 101, none⟩ = some (.slice TB n.text.length td) := by rw [hw5]; exact j101
  replace x7 : Hid (RowAt w7 w.heap.size 102 (arrB m.bind_)) := Lib.hid (by rw [hw5]; exact x7.out)
  replace y7 : Hid (RowAt w7 (w.heap.size + 1) 102 (arrB n.bind_)) := Lib.hid (by rw [hw5]; exact y7.out)
  replace x8 : Hid (RowAt w7 w.heap.size 134 (arrB m.share)) := Lib.hid (by rw [hw5]; exact x8.out)
  replace y8 : Hid (RowAt w7 (w.heap.size + 1) 134 (arrB n.share)) := Lib.hid (by rw [hw5]; exact y8.out)
  replace x9 : Hid (RowAt w7 w.heap.size 166 (arrB m.sig)) := Lib.hid (by rw [hw5]; exact x9.out)
  replace y9 : Hid (RowAt w7 (w.heap.size + 1) 166 (arrB n.sig)) := Lib.hid (by rw [hw5]; exact y9.out)
  replace k230 : w7.cell? ⟨w.heap.size, 230, none⟩ = some (.int .i64 m.code) := by rw [hw5]; exact k230
  replace j230 : w7.cell? ⟨w.heap.size + 1, 230, none⟩ = some (.int .i64 n.code) := by rw [hw5]; exact j230
  replace hM : Hid (MsgIn w7 c1 m LA lc TA tc) := Lib.hid (by rw [hw5]; exact (hM.out.on (below_drewN (Below.refl _ _) _)))
  replace hN : Hid (MsgIn w7 c2 n LB ld TB td) := Lib.hid (by rw [hw5]; exact (hN.out.on (below_drewN (Below.refl _ _) _)))
  replace hB : Hid (Below w.heap.size w w7) := Lib.hid (by rw [hw5]; exact below_drewN hB.out _)
  replace hw5 := Lib.hid hw5
  refine wpList_step (fun K hK => ?_); go_simp; refine hK _ _ ?_; clear hK
  refine wpList_step (fun K hK => ?_); go_simp; refine hK _ _ ?_; clear hK
  refine wpList_step (fun K hK => ?_); go_simp; refine hK _ _ ?_; clear hK
  refine wpList_step (fun K hK => ?_); go_simp; refine hK _ _ ?_; clear hK
  refine wpList_step (fun K hK => ?_); go_simp; refine hK _ _ ?_; clear hK
  refine wpList_step (fun K hK => ?_); go_simp; refine hK _ _ ?_; clear hK
  have hc := sameBytes_any TA TB tc td m.text n.text w7 hM.out.text hN.out.text hM.out.tsz hN.out.tsz
  rw [decide_eq_true e6.out] at hc
  replace hc := Lib.hid hc
  refine wpList_step (fun K hK => ?_); go_simp
  go_at_call 19
  refine hc.out.mono ?_
  rintro e w8 ⟨rfl, a6, hw6⟩
  refine hK _ _ ?_
  clear hK
  replace x7 : Hid (RowAt w8 w.heap.size 102 (arrB m.bind_)) := Lib.hid (by rw [hw6]; exact x7.out)
  replace y7 : Hid (RowAt w8 (w.heap.size + 1) 102 (arrB n.bind_)) := Lib.hid (by rw [hw6]; exact y7.out)
  replace x8 : Hid (RowAt w8 w.heap.size 134 (arrB m.share)) := Lib.hid (by rw [hw6]; exact x8.out)
  replace y8 : Hid (RowAt w8 (w.heap.size + 1) 134 (arrB n.share)) := Lib.hid (by rw [hw6]; exact y8.out)
  replace x9 : Hid (RowAt w8 w.heap.size 166 (arrB m.sig)) := Lib.hid (by rw [hw6]; exact x9.out)
  replace y9 : Hid (RowAt w8 (w.heap.size + 1) 166 (arrB n.sig)) := Lib.hid (by rw [hw6]; exact y9.out)
  replace k230 : w8.cell? ⟨w.heap.size, 230, none⟩ = some (.int .i64 m.code) := by rw [hw6]; exact k230
  replace j230 : w8.cell? ⟨w.heap.size + 1, 230, none⟩ = some (.int .i64 n.code) := by rw [hw6]; exact j230
  replace hM : Hid (MsgIn w8 c1 m LA lc TA tc) := Lib.hid (by rw [hw6]; exact (hM.out.on (below_drewN (Below.refl _ _) _)))
  replace hN : Hid (MsgIn w8 c2 n LB ld TB td) := Lib.hid (by rw [hw6]; exact (hN.out.on (below_drewN (Below.refl _ _) _)))
  replace hB : Hid (Below w.heap.size w w8) := Lib.hid (by rw [hw6]; exact below_drewN hB.out _)
  replace hw6 := Lib.hid hw6
  refine wpList_step (fun K hK => ?_); go_simp; refine hK _ _ ?_; clear hK
  refine wpList_step (fun K hK => ?_); go_simp; refine hK _ _ ?_; clear hK
  refine wpList_step (fun K hK => ?_); go_simp; refine hK _ _ ?_; clear hK
  apply wpList_loadG (hc := x7.out) (hu := Tryd.underlying26) (hi := i7); (case ho => exact rfl); (case hx => exact rfl); (case hd => rfl); (case hw => simp [Region.wanted, yielded])
  refine wpList_step (fun K hK => ?_); go_simp; refine hK _ _ ?_; clear hK
  apply wpList_loadG (hc := y7.out) (hu := Tryd.underlying26) (hi := g7); (case ho => exact rfl); (case hx => exact rfl); (case hd => rfl); (case hw => simp [Region.wanted, yielded])
  refine wpList_step (fun K hK => ?_); go_simp; refine hK _ _ ?_; clear hK
  refine wpList_step (fun K hK => ?_); go_simp; refine hK _ _ ?_; clear hK
  refine wpList_step (fun K hK => ?_); go_simp; refine hK _ _ ?_; clear hK
  refine wpList_step (fun K hK => ?_); go_simp; refine hK _ _ ?_; clear hK
  apply wpList_loadG (hc := x8.out) (hu := Tryd.underlying31) (hi := i8); (case ho => exact rfl); (case hx => exact rfl); (case hd => rfl); (case hw => simp [Region.wanted, yielded])
  refine wpList_step (fun K hK => ?_); go_simp; refine hK _ _ ?_; clear hK
  apply wpList_loadG (hc := y8.out) (hu := Tryd.underlying31) (hi := g8); (case ho => exact rfl); (case hx => exact rfl); (case hd => rfl); (case hw => simp [Region.wanted, yielded])
  refine wpList_step (fun K hK => ?_); go_simp; refine hK _ _ ?_; clear hK
  refine wpList_step (fun K hK => ?_); go_simp; refine hK _ _ ?_; clear hK
  refine wpList_step (fun K hK => ?_); go_simp; refine hK _ _ ?_; clear hK
  refine wpList_step (fun K hK => ?_); go_simp; refine hK _ _ ?_; clear hK
  apply wpList_loadG (hc := x9.out) (hu := Tryd.underlying33) (hi := i9); (case ho => exact rfl); (case hx => exact rfl); (case hd => rfl); (case hw => simp [Region.wanted, yielded])
  refine wpList_step (fun K hK => ?_); go_simp; refine hK _ _ ?_; clear hK
  apply wpList_loadG (hc := y9.out) (hu := Tryd.underlying33) (hi := g9); (case ho => exact rfl); (case hx => exact rfl); (case hd => rfl); (case hw => simp [Region.wanted, yielded])
  refine wpList_step (fun K hK => ?_); go_simp; refine hK _ _ ?_; clear hK
  refine wpList_step (fun K hK => ?_); go_simp; refine hK _ _ ?_; clear hK
  refine wpList_step (fun K hK => ?_); go_simp; refine hK _ _ ?_; clear hK
  refine wpList_step (fun K hK => ?_); go_simp; refine hK _ _ ?_; clear hK
  refine wpList_step (fun K hK => ?_); go_simp; refine hK _ _ ?_; clear hK
  refine wpList_step (fun K hK => ?_); go_simp; refine hK _ _ ?_; clear hK
  refine wpList_step (fun K hK => ?_); go_simp; refine hK _ _ ?_; clear hK
  refine wpList_step (fun K hK => ?_); go_simp; refine hK _ _ ?_; clear hK
  refine wpList_step (fun K hK => ?_); go_simp; refine hK _ _ ?_; clear hK
  refine wpList_step (fun K hK => ?_); go_simp; refine hK _ _ ?_; clear hK
  refine wpList_nil ?_
  go_wp2_with fail
  go_ret
  exact ⟨rfl, hB.out⟩

theorem Msg.ext' {m n : Msg} (h0 : m.kind = n.kind) (h1 : m.session = n.session) (h2 : m.from_ = n.from_) (h3 : m.to_ = n.to_) (h4 : m.pair = n.pair) (h5 : m.list = n.list) (h6 : m.text = n.text) (h7 : m.bind_ = n.bind_) (h8 : m.share = n.share) (h9 : m.sig = n.sig) (h10 : m.code = n.code) : m = n := by
  cases m
  cases n
  simp_all
theorem sameMessage_any (c1 c2 : Array Value) (m n : Msg) (LA : Option Addr) (lc : Nat) (TA : Option Addr) (tc : Nat) (LB : Option Addr) (ld : Nat) (TB : Option Addr) (td : Nat) (w : World) (hM : MsgIn w c1 m LA lc TA tc) (hN : MsgIn w c2 n LB ld TB td) : Calls Tryd.prog 13 #[.agg c1, .agg c2] w fun e w' => e = .returned (.bool (decide (m = n))) ∧ Below w.heap.size w w' := by
  by_cases e0 : m.kind = n.kind
  case neg =>
    rw [decide_eq_false (fun h => e0 (by rw [h]))]
    exact sm_0 c1 c2 m n LA lc TA tc LB ld TB td w hM hN e0
  by_cases e1 : m.session = n.session
  case neg =>
    rw [decide_eq_false (fun h => e1 (by rw [h]))]
    exact sm_1 c1 c2 m n LA lc TA tc LB ld TB td w hM hN e0 e1
  by_cases e2 : m.from_ = n.from_
  case neg =>
    rw [decide_eq_false (fun h => e2 (by rw [h]))]
    exact sm_2 c1 c2 m n LA lc TA tc LB ld TB td w hM hN e0 e1 e2
  by_cases e3 : m.to_ = n.to_
  case neg =>
    rw [decide_eq_false (fun h => e3 (by rw [h]))]
    exact sm_3 c1 c2 m n LA lc TA tc LB ld TB td w hM hN e0 e1 e2 e3
  by_cases e4 : m.pair = n.pair
  case neg =>
    rw [decide_eq_false (fun h => e4 (by rw [h]))]
    exact sm_4 c1 c2 m n LA lc TA tc LB ld TB td w hM hN e0 e1 e2 e3 e4
  by_cases e5 : m.list = n.list
  case neg =>
    rw [decide_eq_false (fun h => e5 (by rw [h]))]
    exact sm_5 c1 c2 m n LA lc TA tc LB ld TB td w hM hN e0 e1 e2 e3 e4 e5
  by_cases e6 : m.text = n.text
  case neg =>
    rw [decide_eq_false (fun h => e6 (by rw [h]))]
    exact sm_6 c1 c2 m n LA lc TA tc LB ld TB td w hM hN e0 e1 e2 e3 e4 e5 e6
  by_cases e7 : m.bind_ = n.bind_
  case neg =>
    rw [decide_eq_false (fun h => e7 (by rw [h]))]
    exact sm_7 c1 c2 m n LA lc TA tc LB ld TB td w hM hN e0 e1 e2 e3 e4 e5 e6 e7
  by_cases e8 : m.share = n.share
  case neg =>
    rw [decide_eq_false (fun h => e8 (by rw [h]))]
    exact sm_8 c1 c2 m n LA lc TA tc LB ld TB td w hM hN e0 e1 e2 e3 e4 e5 e6 e7 e8
  by_cases e9 : m.sig = n.sig
  case neg =>
    rw [decide_eq_false (fun h => e9 (by rw [h]))]
    exact sm_9 c1 c2 m n LA lc TA tc LB ld TB td w hM hN e0 e1 e2 e3 e4 e5 e6 e7 e8 e9
  by_cases e10 : m.code = n.code
  case neg =>
    rw [decide_eq_false (fun h => e10 (by rw [h]))]
    exact sm_10 c1 c2 m n LA lc TA tc LB ld TB td w hM hN e0 e1 e2 e3 e4 e5 e6 e7 e8 e9 e10
  rw [decide_eq_true (Msg.ext' e0 e1 e2 e3 e4 e5 e6 e7 e8 e9 e10)]
  exact sm_11 c1 c2 m n LA lc TA tc LB ld TB td w hM hN e0 e1 e2 e3 e4 e5 e6 e7 e8 e9 e10
end Go.Proofs.YtmnmmabhmedioaaDoor
