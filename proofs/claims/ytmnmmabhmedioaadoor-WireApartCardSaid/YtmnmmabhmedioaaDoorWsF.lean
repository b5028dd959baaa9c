/- Wire: a message that may not be: the body's faults. (Printed by gen_body.py bads.) -/
import Derived.Test.YtmnmmabhmedioaaDoorWsE
namespace Go.Proofs.YtmnmmabhmedioaaDoor
open Go.RowKit
set_option linter.unusedVariables false
set_option linter.unusedSimpArgs false
set_option maxRecDepth 100000

set_option maxHeartbeats 8000000 in
theorem bad_kind1 (cs : Array Value) (m : Msg) (LA : Option Addr) (lc : Nat) (TA : Option Addr) (tc : Nat) (w : World) (hM : MsgIn w cs m LA lc TA tc) (h : m.kind < 1) : Calls Tryd.prog 52 #[.agg cs] w fun e w' => ∃ b, e = Threw b ∧ w.heap.size ≤ b ∧ FaultAt w' b ⟨kKind, 0, 152⟩ ∧ Below w.heap.size w w' := by
  have hX := heap_alloc_new w (.cells cs 36)
  have hB := boxed w (.cells cs 36)
  have hs : (w.alloc (.cells cs 36)).heap.size = w.heap.size + 1 := by simp
  have hC := hM.cells
  go_enter Tryd.func52, Tryd.ntmps52
  go_upto_region 1 with fail
  generalize w.alloc (.cells cs 36) = w1 at hX hB hs ⊢
  have k0 : w1.cell? ⟨w.heap.size, 0, none⟩ = some (.int .i64 m.kind) := cell_of hX hC.kind
  have k33 : w1.cell? ⟨w.heap.size, 33, none⟩ = some (.int .i64 m.from_) := cell_of hX hC.from_
  have k34 : w1.cell? ⟨w.heap.size, 34, none⟩ = some (.int .i64 m.to_) := cell_of hX hC.to_
  replace hX := Lib.hid hX
  replace hB := Lib.hid hB
  replace hC := Lib.hid hC
  replace hM := Lib.hid hM
  go_wp2_with fail
  refine (need_false kKind 0 152 _).mono ?_
  rintro e w2 ⟨q, rfl, hq, hF, hB2⟩
  have hB3 := Lib.hid (later' hB.out hB2)
  replace hF := Lib.hid hF
  clear hB hB2
  go_wp2_with fail
  exact ⟨rfl, q, rfl, by omega, hF.out, hB3.out⟩
set_option maxHeartbeats 8000000 in
theorem bad_kind2 (cs : Array Value) (m : Msg) (LA : Option Addr) (lc : Nat) (TA : Option Addr) (tc : Nat) (w : World) (hM : MsgIn w cs m LA lc TA tc) (h : ¬ m.kind ≤ 6) : Calls Tryd.prog 52 #[.agg cs] w fun e w' => ∃ b, e = Threw b ∧ w.heap.size ≤ b ∧ FaultAt w' b ⟨kKind, 0, 152⟩ ∧ Below w.heap.size w w' := by
  have hX := heap_alloc_new w (.cells cs 36)
  have hB := boxed w (.cells cs 36)
  have hs : (w.alloc (.cells cs 36)).heap.size = w.heap.size + 1 := by simp
  have hC := hM.cells
  go_enter Tryd.func52, Tryd.ntmps52
  go_upto_region 1 with fail
  generalize w.alloc (.cells cs 36) = w1 at hX hB hs ⊢
  have k0 : w1.cell? ⟨w.heap.size, 0, none⟩ = some (.int .i64 m.kind) := cell_of hX hC.kind
  have k33 : w1.cell? ⟨w.heap.size, 33, none⟩ = some (.int .i64 m.from_) := cell_of hX hC.from_
  have k34 : w1.cell? ⟨w.heap.size, 34, none⟩ = some (.int .i64 m.to_) := cell_of hX hC.to_
  replace hX := Lib.hid hX
  replace hB := Lib.hid hB
  replace hC := Lib.hid hC
  replace hM := Lib.hid hM
  go_wp2_with fail
  refine (need_false kKind 0 152 _).mono ?_
  rintro e w2 ⟨q, rfl, hq, hF, hB2⟩
  have hB3 := Lib.hid (later' hB.out hB2)
  replace hF := Lib.hid hF
  clear hB hB2
  go_wp2_with fail
  exact ⟨rfl, q, rfl, by omega, hF.out, hB3.out⟩
set_option maxHeartbeats 8000000 in
theorem bad_from1 (cs : Array Value) (m : Msg) (LA : Option Addr) (lc : Nat) (TA : Option Addr) (tc : Nat) (w : World) (hM : MsgIn w cs m LA lc TA tc) (k1 : 1 ≤ m.kind) (k6 : m.kind ≤ 6) (h : m.from_ < 0) : Calls Tryd.prog 52 #[.agg cs] w fun e w' => ∃ b, e = Threw b ∧ w.heap.size ≤ b ∧ FaultAt w' b ⟨kFrom, 0, 4⟩ ∧ Below w.heap.size w w' := by
  have hX := heap_alloc_new w (.cells cs 36)
  have hB := boxed w (.cells cs 36)
  have hs : (w.alloc (.cells cs 36)).heap.size = w.heap.size + 1 := by simp
  have hC := hM.cells
  go_enter Tryd.func52, Tryd.ntmps52
  go_upto_region 1 with fail
  generalize w.alloc (.cells cs 36) = w1 at hX hB hs ⊢
  have k0 : w1.cell? ⟨w.heap.size, 0, none⟩ = some (.int .i64 m.kind) := cell_of hX hC.kind
  have k33 : w1.cell? ⟨w.heap.size, 33, none⟩ = some (.int .i64 m.from_) := cell_of hX hC.from_
  have k34 : w1.cell? ⟨w.heap.size, 34, none⟩ = some (.int .i64 m.to_) := cell_of hX hC.to_
  replace hX := Lib.hid hX
  replace hB := Lib.hid hB
  replace hC := Lib.hid hC
  replace hM := Lib.hid hM
  go_wp2_with fail
  refine (need_same _ _ _ _).mono ?_
  rintro e w' ⟨rfl, rfl⟩
  go_wp2_with fail
  refine (need_false kFrom 0 4 _).mono ?_
  rintro e w2 ⟨q, rfl, hq, hF, hB2⟩
  have hB3 := Lib.hid (later' hB.out hB2)
  replace hF := Lib.hid hF
  clear hB hB2
  go_wp2_with fail
  exact ⟨rfl, q, rfl, by omega, hF.out, hB3.out⟩
set_option maxHeartbeats 8000000 in
theorem bad_from2 (cs : Array Value) (m : Msg) (LA : Option Addr) (lc : Nat) (TA : Option Addr) (tc : Nat) (w : World) (hM : MsgIn w cs m LA lc TA tc) (k1 : 1 ≤ m.kind) (k6 : m.kind ≤ 6) (f0 : 0 ≤ m.from_) (h : ¬ m.from_ ≤ 255) : Calls Tryd.prog 52 #[.agg cs] w fun e w' => ∃ b, e = Threw b ∧ w.heap.size ≤ b ∧ FaultAt w' b ⟨kFrom, 0, 4⟩ ∧ Below w.heap.size w w' := by
  have hX := heap_alloc_new w (.cells cs 36)
  have hB := boxed w (.cells cs 36)
  have hs : (w.alloc (.cells cs 36)).heap.size = w.heap.size + 1 := by simp
  have hC := hM.cells
  go_enter Tryd.func52, Tryd.ntmps52
  go_upto_region 1 with fail
  generalize w.alloc (.cells cs 36) = w1 at hX hB hs ⊢
  have k0 : w1.cell? ⟨w.heap.size, 0, none⟩ = some (.int .i64 m.kind) := cell_of hX hC.kind
  have k33 : w1.cell? ⟨w.heap.size, 33, none⟩ = some (.int .i64 m.from_) := cell_of hX hC.from_
  have k34 : w1.cell? ⟨w.heap.size, 34, none⟩ = some (.int .i64 m.to_) := cell_of hX hC.to_
  replace hX := Lib.hid hX
  replace hB := Lib.hid hB
  replace hC := Lib.hid hC
  replace hM := Lib.hid hM
  go_wp2_with fail
  refine (need_same _ _ _ _).mono ?_
  rintro e w' ⟨rfl, rfl⟩
  go_wp2_with fail
  rw [decide_eq_false (by omega)]
  refine (need_false kFrom 0 4 _).mono ?_
  rintro e w2 ⟨q, rfl, hq, hF, hB2⟩
  have hB3 := Lib.hid (later' hB.out hB2)
  replace hF := Lib.hid hF
  clear hB hB2
  go_wp2_with fail
  exact ⟨rfl, q, rfl, by omega, hF.out, hB3.out⟩
set_option maxHeartbeats 8000000 in
theorem bad_to1 (cs : Array Value) (m : Msg) (LA : Option Addr) (lc : Nat) (TA : Option Addr) (tc : Nat) (w : World) (hM : MsgIn w cs m LA lc TA tc) (k1 : 1 ≤ m.kind) (k6 : m.kind ≤ 6) (f0 : 0 ≤ m.from_) (f1 : m.from_ ≤ 255) (h : m.to_ < 0) : Calls Tryd.prog 52 #[.agg cs] w fun e w' => ∃ b, e = Threw b ∧ w.heap.size ≤ b ∧ FaultAt w' b ⟨kTo, 0, 4⟩ ∧ Below w.heap.size w w' := by
  have hX := heap_alloc_new w (.cells cs 36)
  have hB := boxed w (.cells cs 36)
  have hs : (w.alloc (.cells cs 36)).heap.size = w.heap.size + 1 := by simp
  have hC := hM.cells
  go_enter Tryd.func52, Tryd.ntmps52
  go_upto_region 1 with fail
  generalize w.alloc (.cells cs 36) = w1 at hX hB hs ⊢
  have k0 : w1.cell? ⟨w.heap.size, 0, none⟩ = some (.int .i64 m.kind) := cell_of hX hC.kind
  have k33 : w1.cell? ⟨w.heap.size, 33, none⟩ = some (.int .i64 m.from_) := cell_of hX hC.from_
  have k34 : w1.cell? ⟨w.heap.size, 34, none⟩ = some (.int .i64 m.to_) := cell_of hX hC.to_
  replace hX := Lib.hid hX
  replace hB := Lib.hid hB
  replace hC := Lib.hid hC
  replace hM := Lib.hid hM
  go_wp2_with fail
  refine (need_same _ _ _ _).mono ?_
  rintro e w' ⟨rfl, rfl⟩
  go_wp2_with fail
  refine (need_same _ _ _ _).mono ?_
  rintro e w' ⟨rfl, rfl⟩
  go_wp2_with fail
  refine (need_false kTo 0 4 _).mono ?_
  rintro e w2 ⟨q, rfl, hq, hF, hB2⟩
  have hB3 := Lib.hid (later' hB.out hB2)
  replace hF := Lib.hid hF
  clear hB hB2
  go_wp2_with fail
  exact ⟨rfl, q, rfl, by omega, hF.out, hB3.out⟩
set_option maxHeartbeats 8000000 in
theorem bad_to2 (cs : Array Value) (m : Msg) (LA : Option Addr) (lc : Nat) (TA : Option Addr) (tc : Nat) (w : World) (hM : MsgIn w cs m LA lc TA tc) (k1 : 1 ≤ m.kind) (k6 : m.kind ≤ 6) (f0 : 0 ≤ m.from_) (f1 : m.from_ ≤ 255) (t0 : 0 ≤ m.to_) (h : ¬ m.to_ ≤ 255) : Calls Tryd.prog 52 #[.agg cs] w fun e w' => ∃ b, e = Threw b ∧ w.heap.size ≤ b ∧ FaultAt w' b ⟨kTo, 0, 4⟩ ∧ Below w.heap.size w w' := by
  have hX := heap_alloc_new w (.cells cs 36)
  have hB := boxed w (.cells cs 36)
  have hs : (w.alloc (.cells cs 36)).heap.size = w.heap.size + 1 := by simp
  have hC := hM.cells
  go_enter Tryd.func52, Tryd.ntmps52
  go_upto_region 1 with fail
  generalize w.alloc (.cells cs 36) = w1 at hX hB hs ⊢
  have k0 : w1.cell? ⟨w.heap.size, 0, none⟩ = some (.int .i64 m.kind) := cell_of hX hC.kind
  have k33 : w1.cell? ⟨w.heap.size, 33, none⟩ = some (.int .i64 m.from_) := cell_of hX hC.from_
  have k34 : w1.cell? ⟨w.heap.size, 34, none⟩ = some (.int .i64 m.to_) := cell_of hX hC.to_
  replace hX := Lib.hid hX
  replace hB := Lib.hid hB
  replace hC := Lib.hid hC
  replace hM := Lib.hid hM
  go_wp2_with fail
  refine (need_same _ _ _ _).mono ?_
  rintro e w' ⟨rfl, rfl⟩
  go_wp2_with fail
  refine (need_same _ _ _ _).mono ?_
  rintro e w' ⟨rfl, rfl⟩
  go_wp2_with fail
  rw [decide_eq_false (by omega)]
  refine (need_false kTo 0 4 _).mono ?_
  rintro e w2 ⟨q, rfl, hq, hF, hB2⟩
  have hB3 := Lib.hid (later' hB.out hB2)
  replace hF := Lib.hid hF
  clear hB hB2
  go_wp2_with fail
  exact ⟨rfl, q, rfl, by omega, hF.out, hB3.out⟩
set_option maxHeartbeats 8000000 in
theorem bad_pair2 (cs : Array Value) (m : Msg) (LA : Option Addr) (lc : Nat) (TA : Option Addr) (tc : Nat) (w : World) (hM : MsgIn w cs m LA lc TA tc) (hk : m.kind = 2) (f0 : 0 ≤ m.from_) (f1 : m.from_ ≤ 255) (t0 : 0 ≤ m.to_) (t1 : m.to_ ≤ 255) (hid : isId m.pair.id = false) : Calls Tryd.prog 52 #[.agg cs] w fun e w' => ∃ b, e = Threw b ∧ w.heap.size ≤ b ∧ FaultAt w' b ⟨kPair, 0, 4⟩ ∧ Below w.heap.size w w' := by
  obtain ⟨i0, hi0, hz0, hz1, hz2⟩ := info_parts inf5
  have hX := heap_alloc_new w (.cells cs 36)
  have hB := boxed w (.cells cs 36)
  have hs : (w.alloc (.cells cs 36)).heap.size = w.heap.size + 1 := by simp
  have hC := hM.cells
  have hl := hC.session.1
  go_enter Tryd.func52, Tryd.ntmps52
  go_upto_region 1 with fail
  generalize w.alloc (.cells cs 36) = w1 at hX hB hs ⊢
  have k0 : w1.cell? ⟨w.heap.size, 0, none⟩ = some (.int .i64 2) := by rw [← hk]; exact cell_of hX hC.kind
  have k33 : w1.cell? ⟨w.heap.size, 33, none⟩ = some (.int .i64 m.from_) := cell_of hX hC.from_
  have k34 : w1.cell? ⟨w.heap.size, 34, none⟩ = some (.int .i64 m.to_) := cell_of hX hC.to_
  have hS := Lib.hid (hC.session.bs hX)
  replace hX := Lib.hid hX
  replace hB := Lib.hid hB
  replace hC := Lib.hid hC
  replace hM := Lib.hid hM
  go_wp2_with fail
  refine (need_same _ _ _ _).mono ?_
  rintro e w' ⟨rfl, rfl⟩
  go_wp2_with fail
  refine (need_same _ _ _ _).mono ?_
  rintro e w' ⟨rfl, rfl⟩
  go_wp2_with fail
  refine (need_same _ _ _ _).mono ?_
  rintro e w' ⟨rfl, rfl⟩
  go_wp2_with (at_builtin; go_must (refine wpList_append_bs _ rfl _ _ 22 rfl (w.heap.size + 1) i0 Tryd.underlying22 hi0 hz0 hz1 hz2 none 0 0 [] rfl rfl (OwnB.nil _ _) (some ⟨w.heap.size, 1, none⟩) 32 32 m.session hl rfl hS.out ?q1a ?q1b ?_))
  case q1a => simp; omega
  case q1b => omega
  intro A2 c2 w2 hO2 hg2 hat2
  have hX2 := grew_box (OwnB.nil w' (w.heap.size + 1)) hg2 hX.out (by decide)
  have hB2 := Lib.hid (below_grew hB.out (OwnB.nil w' (w.heap.size + 1)) (by omega) (by omega) hg2)
  have k33 : w2.cell? ⟨w.heap.size, 33, none⟩ = some (.int .i64 m.from_) := cell_of hX2 hC.out.from_
  have k34 : w2.cell? ⟨w.heap.size, 34, none⟩ = some (.int .i64 m.to_) := cell_of hX2 hC.out.to_
  replace hX2 := Lib.hid hX2
  have hs2 : w.heap.size < w2.heap.size := heap_lt hX2.out
  have e1 := nb_u8 f0
  have e2 := nb_u8 t0
  have e3 : m.from_ % 256 = m.from_ := by omega
  have e4 : m.to_ % 256 = m.to_ := by omega
  rw [e3] at e1
  rw [e4] at e2
  have hb2 := Bs.two w2 (u8 m.from_) (u8 m.to_) 5
  rw [e1, e2] at hb2
  replace hb2 := Lib.hid hb2
  replace hO2 := Lib.hid hO2
  replace e1 := Lib.hid e1
  replace e2 := Lib.hid e2
  clear hg2 hat2 hX hB hS k0
  go_wp2_with (at_builtin; go_must (refine wpList_append_bs _ rfl _ _ 22 rfl (w.heap.size + 1) i0 Tryd.underlying22 hi0 hz0 hz1 hz2 A2 32 c2 m.session hl rfl (hO2.out.on (boxed _ _)) (some ⟨w2.heap.size, 0, none⟩) 2 2 [u8 m.from_, u8 m.to_] rfl rfl hb2.out ?q2a ?q2b ?_))
  case q2a => simp; omega
  case q2b => simp; omega
  intro A3 c3 w3 hO3 hg3 hat3
  have hX3 := grew_box (hO2.out.on (boxed _ _)) hg3 (heap_on (boxed _ _) hX2.out) (by decide)
  have hB3 := Lib.hid (below_grew (later' hB2.out (boxed _ _)) (hO2.out.on (boxed _ _)) (by omega) (by simp; omega) hg3)
  have k0 : w3.cell? ⟨w.heap.size, 0, none⟩ = some (.int .i64 2) := by rw [← hk]; exact cell_of hX3 hC.out.kind
  replace hX3 := Lib.hid hX3
  replace hO3 := Lib.hid hO3
  have hs3 : w.heap.size < w3.heap.size := heap_lt hX3.out
  have hl3 : (m.session ++ [u8 m.from_, u8 m.to_]).length = 34 := by simp [hl]
  have hr3 : Hid (bodyM m = m.session ++ [u8 m.from_, u8 m.to_] ++ restM m) := Lib.hid rfl
  generalize m.session ++ [u8 m.from_, u8 m.to_] = P at hO3 hl3 hr3 ⊢
  clear hg3 hat3 hb2 hO2 hX2 hB2 hs2
  have k35 : w3.cell? ⟨w.heap.size, 35, none⟩ = some (.int .i64 m.pair.id) := cell_of hX3.out hC.out.pid
  go_wp2_with fail
  refine (isID_any _ _).mono ?_
  rintro e w' ⟨rfl, rfl⟩
  rw [hid]
  go_wp2_with fail
  refine (need_false kPair 0 4 _).mono ?_
  rintro e w6 ⟨q, rfl, hq, hF, hB6⟩
  have hB16 := Lib.hid (later' hB3.out hB6)
  replace hF := Lib.hid hF
  clear hB3 hB6
  go_wp2_with fail
  exact ⟨rfl, q, rfl, by omega, hF.out, hB16.out⟩
set_option maxHeartbeats 8000000 in
theorem bad_pair4 (cs : Array Value) (m : Msg) (LA : Option Addr) (lc : Nat) (TA : Option Addr) (tc : Nat) (w : World) (hM : MsgIn w cs m LA lc TA tc) (hk : m.kind = 4) (f0 : 0 ≤ m.from_) (f1 : m.from_ ≤ 255) (t0 : 0 ≤ m.to_) (t1 : m.to_ ≤ 255) (hid : isId m.pair.id = false) : Calls Tryd.prog 52 #[.agg cs] w fun e w' => ∃ b, e = Threw b ∧ w.heap.size ≤ b ∧ FaultAt w' b ⟨kPair, 0, 4⟩ ∧ Below w.heap.size w w' := by
  obtain ⟨i0, hi0, hz0, hz1, hz2⟩ := info_parts inf5
  have hX := heap_alloc_new w (.cells cs 36)
  have hB := boxed w (.cells cs 36)
  have hs : (w.alloc (.cells cs 36)).heap.size = w.heap.size + 1 := by simp
  have hC := hM.cells
  have hl := hC.session.1
  go_enter Tryd.func52, Tryd.ntmps52
  go_upto_region 1 with fail
  generalize w.alloc (.cells cs 36) = w1 at hX hB hs ⊢
  have k0 : w1.cell? ⟨w.heap.size, 0, none⟩ = some (.int .i64 4) := by rw [← hk]; exact cell_of hX hC.kind
  have k33 : w1.cell? ⟨w.heap.size, 33, none⟩ = some (.int .i64 m.from_) := cell_of hX hC.from_
  have k34 : w1.cell? ⟨w.heap.size, 34, none⟩ = some (.int .i64 m.to_) := cell_of hX hC.to_
  have hS := Lib.hid (hC.session.bs hX)
  replace hX := Lib.hid hX
  replace hB := Lib.hid hB
  replace hC := Lib.hid hC
  replace hM := Lib.hid hM
  go_wp2_with fail
  refine (need_same _ _ _ _).mono ?_
  rintro e w' ⟨rfl, rfl⟩
  go_wp2_with fail
  refine (need_same _ _ _ _).mono ?_
  rintro e w' ⟨rfl, rfl⟩
  go_wp2_with fail
  refine (need_same _ _ _ _).mono ?_
  rintro e w' ⟨rfl, rfl⟩
  go_wp2_with (at_builtin; go_must (refine wpList_append_bs _ rfl _ _ 22 rfl (w.heap.size + 1) i0 Tryd.underlying22 hi0 hz0 hz1 hz2 none 0 0 [] rfl rfl (OwnB.nil _ _) (some ⟨w.heap.size, 1, none⟩) 32 32 m.session hl rfl hS.out ?q1a ?q1b ?_))
  case q1a => simp; omega
  case q1b => omega
  intro A2 c2 w2 hO2 hg2 hat2
  have hX2 := grew_box (OwnB.nil w' (w.heap.size + 1)) hg2 hX.out (by decide)
  have hB2 := Lib.hid (below_grew hB.out (OwnB.nil w' (w.heap.size + 1)) (by omega) (by omega) hg2)
  have k33 : w2.cell? ⟨w.heap.size, 33, none⟩ = some (.int .i64 m.from_) := cell_of hX2 hC.out.from_
  have k34 : w2.cell? ⟨w.heap.size, 34, none⟩ = some (.int .i64 m.to_) := cell_of hX2 hC.out.to_
  replace hX2 := Lib.hid hX2
  have hs2 : w.heap.size < w2.heap.size := heap_lt hX2.out
  have e1 := nb_u8 f0
  have e2 := nb_u8 t0
  have e3 : m.from_ % 256 = m.from_ := by omega
  have e4 : m.to_ % 256 = m.to_ := by omega
  rw [e3] at e1
  rw [e4] at e2
  have hb2 := Bs.two w2 (u8 m.from_) (u8 m.to_) 5
  rw [e1, e2] at hb2
  replace hb2 := Lib.hid hb2
  replace hO2 := Lib.hid hO2
  replace e1 := Lib.hid e1
  replace e2 := Lib.hid e2
  clear hg2 hat2 hX hB hS k0
  go_wp2_with (at_builtin; go_must (refine wpList_append_bs _ rfl _ _ 22 rfl (w.heap.size + 1) i0 Tryd.underlying22 hi0 hz0 hz1 hz2 A2 32 c2 m.session hl rfl (hO2.out.on (boxed _ _)) (some ⟨w2.heap.size, 0, none⟩) 2 2 [u8 m.from_, u8 m.to_] rfl rfl hb2.out ?q2a ?q2b ?_))
  case q2a => simp; omega
  case q2b => simp; omega
  intro A3 c3 w3 hO3 hg3 hat3
  have hX3 := grew_box (hO2.out.on (boxed _ _)) hg3 (heap_on (boxed _ _) hX2.out) (by decide)
  have hB3 := Lib.hid (below_grew (later' hB2.out (boxed _ _)) (hO2.out.on (boxed _ _)) (by omega) (by simp; omega) hg3)
  have k0 : w3.cell? ⟨w.heap.size, 0, none⟩ = some (.int .i64 4) := by rw [← hk]; exact cell_of hX3 hC.out.kind
  replace hX3 := Lib.hid hX3
  replace hO3 := Lib.hid hO3
  have hs3 : w.heap.size < w3.heap.size := heap_lt hX3.out
  have hl3 : (m.session ++ [u8 m.from_, u8 m.to_]).length = 34 := by simp [hl]
  have hr3 : Hid (bodyM m = m.session ++ [u8 m.from_, u8 m.to_] ++ restM m) := Lib.hid rfl
  generalize m.session ++ [u8 m.from_, u8 m.to_] = P at hO3 hl3 hr3 ⊢
  clear hg3 hat3 hb2 hO2 hX2 hB2 hs2
  have k35 : w3.cell? ⟨w.heap.size, 35, none⟩ = some (.int .i64 m.pair.id) := cell_of hX3.out hC.out.pid
  go_wp2_with fail
  refine (isID_any _ _).mono ?_
  rintro e w' ⟨rfl, rfl⟩
  rw [hid]
  go_wp2_with fail
  refine (need_false kPair 0 4 _).mono ?_
  rintro e w6 ⟨q, rfl, hq, hF, hB6⟩
  have hB16 := Lib.hid (later' hB3.out hB6)
  replace hF := Lib.hid hF
  clear hB3 hB6
  go_wp2_with fail
  exact ⟨rfl, q, rfl, by omega, hF.out, hB16.out⟩
set_option maxHeartbeats 8000000 in
theorem bad_count (cs : Array Value) (m : Msg) (LA : Option Addr) (lc : Nat) (TA : Option Addr) (tc : Nat) (w : World) (hM : MsgIn w cs m LA lc TA tc) (hk : m.kind = 3) (f0 : 0 ≤ m.from_) (f1 : m.from_ ≤ 255) (t0 : 0 ≤ m.to_) (t1 : m.to_ ≤ 255) (hll : 255 < m.list.length) : Calls Tryd.prog 52 #[.agg cs] w fun e w' => ∃ b, e = Threw b ∧ w.heap.size ≤ b ∧ FaultAt w' b ⟨kList, 0, 8⟩ ∧ Below w.heap.size w w' := by
  obtain ⟨i0, hi0, hz0, hz1, hz2⟩ := info_parts inf5
  have hX := heap_alloc_new w (.cells cs 36)
  have hB := boxed w (.cells cs 36)
  have hs : (w.alloc (.cells cs 36)).heap.size = w.heap.size + 1 := by simp
  have hC := hM.cells
  have hl := hC.session.1
  go_enter Tryd.func52, Tryd.ntmps52
  go_upto_region 1 with fail
  generalize w.alloc (.cells cs 36) = w1 at hX hB hs ⊢
  have k0 : w1.cell? ⟨w.heap.size, 0, none⟩ = some (.int .i64 3) := by rw [← hk]; exact cell_of hX hC.kind
  have k33 : w1.cell? ⟨w.heap.size, 33, none⟩ = some (.int .i64 m.from_) := cell_of hX hC.from_
  have k34 : w1.cell? ⟨w.heap.size, 34, none⟩ = some (.int .i64 m.to_) := cell_of hX hC.to_
  have hS := Lib.hid (hC.session.bs hX)
  replace hX := Lib.hid hX
  replace hB := Lib.hid hB
  replace hC := Lib.hid hC
  replace hM := Lib.hid hM
  go_wp2_with fail
  refine (need_same _ _ _ _).mono ?_
  rintro e w' ⟨rfl, rfl⟩
  go_wp2_with fail
  refine (need_same _ _ _ _).mono ?_
  rintro e w' ⟨rfl, rfl⟩
  go_wp2_with fail
  refine (need_same _ _ _ _).mono ?_
  rintro e w' ⟨rfl, rfl⟩
  go_wp2_with (at_builtin; go_must (refine wpList_append_bs _ rfl _ _ 22 rfl (w.heap.size + 1) i0 Tryd.underlying22 hi0 hz0 hz1 hz2 none 0 0 [] rfl rfl (OwnB.nil _ _) (some ⟨w.heap.size, 1, none⟩) 32 32 m.session hl rfl hS.out ?q1a ?q1b ?_))
  case q1a => simp; omega
  case q1b => omega
  intro A2 c2 w2 hO2 hg2 hat2
  have hX2 := grew_box (OwnB.nil w' (w.heap.size + 1)) hg2 hX.out (by decide)
  have hB2 := Lib.hid (below_grew hB.out (OwnB.nil w' (w.heap.size + 1)) (by omega) (by omega) hg2)
  have k33 : w2.cell? ⟨w.heap.size, 33, none⟩ = some (.int .i64 m.from_) := cell_of hX2 hC.out.from_
  have k34 : w2.cell? ⟨w.heap.size, 34, none⟩ = some (.int .i64 m.to_) := cell_of hX2 hC.out.to_
  replace hX2 := Lib.hid hX2
  have hs2 : w.heap.size < w2.heap.size := heap_lt hX2.out
  have e1 := nb_u8 f0
  have e2 := nb_u8 t0
  have e3 : m.from_ % 256 = m.from_ := by omega
  have e4 : m.to_ % 256 = m.to_ := by omega
  rw [e3] at e1
  rw [e4] at e2
  have hb2 := Bs.two w2 (u8 m.from_) (u8 m.to_) 5
  rw [e1, e2] at hb2
  replace hb2 := Lib.hid hb2
  replace hO2 := Lib.hid hO2
  replace e1 := Lib.hid e1
  replace e2 := Lib.hid e2
  clear hg2 hat2 hX hB hS k0
  go_wp2_with (at_builtin; go_must (refine wpList_append_bs _ rfl _ _ 22 rfl (w.heap.size + 1) i0 Tryd.underlying22 hi0 hz0 hz1 hz2 A2 32 c2 m.session hl rfl (hO2.out.on (boxed _ _)) (some ⟨w2.heap.size, 0, none⟩) 2 2 [u8 m.from_, u8 m.to_] rfl rfl hb2.out ?q2a ?q2b ?_))
  case q2a => simp; omega
  case q2b => simp; omega
  intro A3 c3 w3 hO3 hg3 hat3
  have hX3 := grew_box (hO2.out.on (boxed _ _)) hg3 (heap_on (boxed _ _) hX2.out) (by decide)
  have hB3 := Lib.hid (below_grew (later' hB2.out (boxed _ _)) (hO2.out.on (boxed _ _)) (by omega) (by simp; omega) hg3)
  have k0 : w3.cell? ⟨w.heap.size, 0, none⟩ = some (.int .i64 3) := by rw [← hk]; exact cell_of hX3 hC.out.kind
  replace hX3 := Lib.hid hX3
  replace hO3 := Lib.hid hO3
  have hs3 : w.heap.size < w3.heap.size := heap_lt hX3.out
  have hl3 : (m.session ++ [u8 m.from_, u8 m.to_]).length = 34 := by simp [hl]
  have hr3 : Hid (bodyM m = m.session ++ [u8 m.from_, u8 m.to_] ++ restM m) := Lib.hid rfl
  generalize m.session ++ [u8 m.from_, u8 m.to_] = P at hO3 hl3 hr3 ⊢
  clear hg3 hat3 hb2 hO2 hX2 hB2 hs2
  have k100 : w3.cell? ⟨w.heap.size, 100, none⟩ = some (.slice LA m.list.length lc) := cell_of hX3.out hC.out.list
  go_wp2_with fail
  rw [decide_eq_false (by omega)]
  refine (need_false kList 0 8 _).mono ?_
  rintro e w6 ⟨q, rfl, hq, hF, hB6⟩
  have hB16 := Lib.hid (later' hB3.out hB6)
  replace hF := Lib.hid hF
  clear hB3 hB6
  go_wp2_with fail
  exact ⟨rfl, q, rfl, by omega, hF.out, hB16.out⟩
set_option maxHeartbeats 8000000 in
theorem bad_code1 (cs : Array Value) (m : Msg) (LA : Option Addr) (lc : Nat) (TA : Option Addr) (tc : Nat) (w : World) (hM : MsgIn w cs m LA lc TA tc) (hk : m.kind = 5) (f0 : 0 ≤ m.from_) (f1 : m.from_ ≤ 255) (t0 : 0 ≤ m.to_) (t1 : m.to_ ≤ 255) (h : m.code < 1) : Calls Tryd.prog 52 #[.agg cs] w fun e w' => ∃ b, e = Threw b ∧ w.heap.size ≤ b ∧ FaultAt w' b ⟨kCode, 0, 1⟩ ∧ Below w.heap.size w w' := by
  obtain ⟨i0, hi0, hz0, hz1, hz2⟩ := info_parts inf5
  have hX := heap_alloc_new w (.cells cs 36)
  have hB := boxed w (.cells cs 36)
  have hs : (w.alloc (.cells cs 36)).heap.size = w.heap.size + 1 := by simp
  have hC := hM.cells
  have hl := hC.session.1
  go_enter Tryd.func52, Tryd.ntmps52
  go_upto_region 1 with fail
  generalize w.alloc (.cells cs 36) = w1 at hX hB hs ⊢
  have k0 : w1.cell? ⟨w.heap.size, 0, none⟩ = some (.int .i64 5) := by rw [← hk]; exact cell_of hX hC.kind
  have k33 : w1.cell? ⟨w.heap.size, 33, none⟩ = some (.int .i64 m.from_) := cell_of hX hC.from_
  have k34 : w1.cell? ⟨w.heap.size, 34, none⟩ = some (.int .i64 m.to_) := cell_of hX hC.to_
  have hS := Lib.hid (hC.session.bs hX)
  replace hX := Lib.hid hX
  replace hB := Lib.hid hB
  replace hC := Lib.hid hC
  replace hM := Lib.hid hM
  go_wp2_with fail
  refine (need_same _ _ _ _).mono ?_
  rintro e w' ⟨rfl, rfl⟩
  go_wp2_with fail
  refine (need_same _ _ _ _).mono ?_
  rintro e w' ⟨rfl, rfl⟩
  go_wp2_with fail
  refine (need_same _ _ _ _).mono ?_
  rintro e w' ⟨rfl, rfl⟩
  go_wp2_with (at_builtin; go_must (refine wpList_append_bs _ rfl _ _ 22 rfl (w.heap.size + 1) i0 Tryd.underlying22 hi0 hz0 hz1 hz2 none 0 0 [] rfl rfl (OwnB.nil _ _) (some ⟨w.heap.size, 1, none⟩) 32 32 m.session hl rfl hS.out ?q1a ?q1b ?_))
  case q1a => simp; omega
  case q1b => omega
  intro A2 c2 w2 hO2 hg2 hat2
  have hX2 := grew_box (OwnB.nil w' (w.heap.size + 1)) hg2 hX.out (by decide)
  have hB2 := Lib.hid (below_grew hB.out (OwnB.nil w' (w.heap.size + 1)) (by omega) (by omega) hg2)
  have k33 : w2.cell? ⟨w.heap.size, 33, none⟩ = some (.int .i64 m.from_) := cell_of hX2 hC.out.from_
  have k34 : w2.cell? ⟨w.heap.size, 34, none⟩ = some (.int .i64 m.to_) := cell_of hX2 hC.out.to_
  replace hX2 := Lib.hid hX2
  have hs2 : w.heap.size < w2.heap.size := heap_lt hX2.out
  have e1 := nb_u8 f0
  have e2 := nb_u8 t0
  have e3 : m.from_ % 256 = m.from_ := by omega
  have e4 : m.to_ % 256 = m.to_ := by omega
  rw [e3] at e1
  rw [e4] at e2
  have hb2 := Bs.two w2 (u8 m.from_) (u8 m.to_) 5
  rw [e1, e2] at hb2
  replace hb2 := Lib.hid hb2
  replace hO2 := Lib.hid hO2
  replace e1 := Lib.hid e1
  replace e2 := Lib.hid e2
  clear hg2 hat2 hX hB hS k0
  go_wp2_with (at_builtin; go_must (refine wpList_append_bs _ rfl _ _ 22 rfl (w.heap.size + 1) i0 Tryd.underlying22 hi0 hz0 hz1 hz2 A2 32 c2 m.session hl rfl (hO2.out.on (boxed _ _)) (some ⟨w2.heap.size, 0, none⟩) 2 2 [u8 m.from_, u8 m.to_] rfl rfl hb2.out ?q2a ?q2b ?_))
  case q2a => simp; omega
  case q2b => simp; omega
  intro A3 c3 w3 hO3 hg3 hat3
  have hX3 := grew_box (hO2.out.on (boxed _ _)) hg3 (heap_on (boxed _ _) hX2.out) (by decide)
  have hB3 := Lib.hid (below_grew (later' hB2.out (boxed _ _)) (hO2.out.on (boxed _ _)) (by omega) (by simp; omega) hg3)
  have k0 : w3.cell? ⟨w.heap.size, 0, none⟩ = some (.int .i64 5) := by rw [← hk]; exact cell_of hX3 hC.out.kind
  replace hX3 := Lib.hid hX3
  replace hO3 := Lib.hid hO3
  have hs3 : w.heap.size < w3.heap.size := heap_lt hX3.out
  have hl3 : (m.session ++ [u8 m.from_, u8 m.to_]).length = 34 := by simp [hl]
  have hr3 : Hid (bodyM m = m.session ++ [u8 m.from_, u8 m.to_] ++ restM m) := Lib.hid rfl
  generalize m.session ++ [u8 m.from_, u8 m.to_] = P at hO3 hl3 hr3 ⊢
  clear hg3 hat3 hb2 hO2 hX2 hB2 hs2
  have k230 : w3.cell? ⟨w.heap.size, 230, none⟩ = some (.int .i64 m.code) := cell_of hX3.out hC.out.code
  go_wp2_with fail
  refine (need_false kCode 0 1 _).mono ?_
  rintro e w6 ⟨q, rfl, hq, hF, hB6⟩
  have hB16 := Lib.hid (later' hB3.out hB6)
  replace hF := Lib.hid hF
  clear hB3 hB6
  go_wp2_with fail
  exact ⟨rfl, q, rfl, by omega, hF.out, hB16.out⟩
set_option maxHeartbeats 8000000 in
theorem bad_code2 (cs : Array Value) (m : Msg) (LA : Option Addr) (lc : Nat) (TA : Option Addr) (tc : Nat) (w : World) (hM : MsgIn w cs m LA lc TA tc) (hk : m.kind = 5) (f0 : 0 ≤ m.from_) (f1 : m.from_ ≤ 255) (t0 : 0 ≤ m.to_) (t1 : m.to_ ≤ 255) (h : ¬ m.code ≤ 65535) (h1 : 1 ≤ m.code) : Calls Tryd.prog 52 #[.agg cs] w fun e w' => ∃ b, e = Threw b ∧ w.heap.size ≤ b ∧ FaultAt w' b ⟨kCode, 0, 1⟩ ∧ Below w.heap.size w w' := by
  obtain ⟨i0, hi0, hz0, hz1, hz2⟩ := info_parts inf5
  have hX := heap_alloc_new w (.cells cs 36)
  have hB := boxed w (.cells cs 36)
  have hs : (w.alloc (.cells cs 36)).heap.size = w.heap.size + 1 := by simp
  have hC := hM.cells
  have hl := hC.session.1
  go_enter Tryd.func52, Tryd.ntmps52
  go_upto_region 1 with fail
  generalize w.alloc (.cells cs 36) = w1 at hX hB hs ⊢
  have k0 : w1.cell? ⟨w.heap.size, 0, none⟩ = some (.int .i64 5) := by rw [← hk]; exact cell_of hX hC.kind
  have k33 : w1.cell? ⟨w.heap.size, 33, none⟩ = some (.int .i64 m.from_) := cell_of hX hC.from_
  have k34 : w1.cell? ⟨w.heap.size, 34, none⟩ = some (.int .i64 m.to_) := cell_of hX hC.to_
  have hS := Lib.hid (hC.session.bs hX)
  replace hX := Lib.hid hX
  replace hB := Lib.hid hB
  replace hC := Lib.hid hC
  replace hM := Lib.hid hM
  go_wp2_with fail
  refine (need_same _ _ _ _).mono ?_
  rintro e w' ⟨rfl, rfl⟩
  go_wp2_with fail
  refine (need_same _ _ _ _).mono ?_
  rintro e w' ⟨rfl, rfl⟩
  go_wp2_with fail
  refine (need_same _ _ _ _).mono ?_
  rintro e w' ⟨rfl, rfl⟩
  go_wp2_with (at_builtin; go_must (refine wpList_append_bs _ rfl _ _ 22 rfl (w.heap.size + 1) i0 Tryd.underlying22 hi0 hz0 hz1 hz2 none 0 0 [] rfl rfl (OwnB.nil _ _) (some ⟨w.heap.size, 1, none⟩) 32 32 m.session hl rfl hS.out ?q1a ?q1b ?_))
  case q1a => simp; omega
  case q1b => omega
  intro A2 c2 w2 hO2 hg2 hat2
  have hX2 := grew_box (OwnB.nil w' (w.heap.size + 1)) hg2 hX.out (by decide)
  have hB2 := Lib.hid (below_grew hB.out (OwnB.nil w' (w.heap.size + 1)) (by omega) (by omega) hg2)
  have k33 : w2.cell? ⟨w.heap.size, 33, none⟩ = some (.int .i64 m.from_) := cell_of hX2 hC.out.from_
  have k34 : w2.cell? ⟨w.heap.size, 34, none⟩ = some (.int .i64 m.to_) := cell_of hX2 hC.out.to_
  replace hX2 := Lib.hid hX2
  have hs2 : w.heap.size < w2.heap.size := heap_lt hX2.out
  have e1 := nb_u8 f0
  have e2 := nb_u8 t0
  have e3 : m.from_ % 256 = m.from_ := by omega
  have e4 : m.to_ % 256 = m.to_ := by omega
  rw [e3] at e1
  rw [e4] at e2
  have hb2 := Bs.two w2 (u8 m.from_) (u8 m.to_) 5
  rw [e1, e2] at hb2
  replace hb2 := Lib.hid hb2
  replace hO2 := Lib.hid hO2
  replace e1 := Lib.hid e1
  replace e2 := Lib.hid e2
  clear hg2 hat2 hX hB hS k0
  go_wp2_with (at_builtin; go_must (refine wpList_append_bs _ rfl _ _ 22 rfl (w.heap.size + 1) i0 Tryd.underlying22 hi0 hz0 hz1 hz2 A2 32 c2 m.session hl rfl (hO2.out.on (boxed _ _)) (some ⟨w2.heap.size, 0, none⟩) 2 2 [u8 m.from_, u8 m.to_] rfl rfl hb2.out ?q2a ?q2b ?_))
  case q2a => simp; omega
  case q2b => simp; omega
  intro A3 c3 w3 hO3 hg3 hat3
  have hX3 := grew_box (hO2.out.on (boxed _ _)) hg3 (heap_on (boxed _ _) hX2.out) (by decide)
  have hB3 := Lib.hid (below_grew (later' hB2.out (boxed _ _)) (hO2.out.on (boxed _ _)) (by omega) (by simp; omega) hg3)
  have k0 : w3.cell? ⟨w.heap.size, 0, none⟩ = some (.int .i64 5) := by rw [← hk]; exact cell_of hX3 hC.out.kind
  replace hX3 := Lib.hid hX3
  replace hO3 := Lib.hid hO3
  have hs3 : w.heap.size < w3.heap.size := heap_lt hX3.out
  have hl3 : (m.session ++ [u8 m.from_, u8 m.to_]).length = 34 := by simp [hl]
  have hr3 : Hid (bodyM m = m.session ++ [u8 m.from_, u8 m.to_] ++ restM m) := Lib.hid rfl
  generalize m.session ++ [u8 m.from_, u8 m.to_] = P at hO3 hl3 hr3 ⊢
  clear hg3 hat3 hb2 hO2 hX2 hB2 hs2
  have k230 : w3.cell? ⟨w.heap.size, 230, none⟩ = some (.int .i64 m.code) := cell_of hX3.out hC.out.code
  go_wp2_with fail
  rw [decide_eq_false (by omega)]
  refine (need_false kCode 0 1 _).mono ?_
  rintro e w6 ⟨q, rfl, hq, hF, hB6⟩
  have hB16 := Lib.hid (later' hB3.out hB6)
  replace hF := Lib.hid hF
  clear hB3 hB6
  go_wp2_with fail
  exact ⟨rfl, q, rfl, by omega, hF.out, hB16.out⟩
set_option maxHeartbeats 16000000 in
theorem body_3bad (cs : Array Value) (m : Msg) (LA : Option Addr) (lc : Nat) (TA : Option Addr) (tc : Nat) (w : World) (hM : MsgIn w cs m LA lc TA tc) (hk : m.kind = 3) (f0 : 0 ≤ m.from_) (f1 : m.from_ ≤ 255) (t0 : 0 ≤ m.to_) (t1 : m.to_ ≤ 255) (hll : m.list.length ≤ 255) (i : Nat) (hi : i ≤ m.list.length) (hids : ∀ j, j < i → isId (m.list.getD j Pair.zero).id = true) (hbad : i < m.list.length → isId (m.list.getD i Pair.zero).id = false) (hend : i = m.list.length → 1048575 < m.text.length) (f : FD) (hf1 : i < m.list.length → f = ⟨kList, i, 4⟩) (hf2 : i = m.list.length → f = ⟨kText, 0, 10⟩) : Calls Tryd.prog 52 #[.agg cs] w fun e w' => ∃ b, e = Threw b ∧ w.heap.size ≤ b ∧ FaultAt w' b f ∧ Below w.heap.size w w' := by
  replace hids := Lib.hid hids
  replace hbad := Lib.hid hbad
  replace hend := Lib.hid hend
  replace hf1 := Lib.hid hf1
  replace hf2 := Lib.hid hf2
  obtain ⟨i0, hi0, hz0, hz1, hz2⟩ := info_parts inf5
  have hX := heap_alloc_new w (.cells cs 36)
  have hB := boxed w (.cells cs 36)
  have hs : (w.alloc (.cells cs 36)).heap.size = w.heap.size + 1 := by simp
  have hC := hM.cells
  have hl := hC.session.1
  go_enter Tryd.func52, Tryd.ntmps52
  go_upto_region 1 with fail
  generalize w.alloc (.cells cs 36) = w1 at hX hB hs ⊢
  have k0 : w1.cell? ⟨w.heap.size, 0, none⟩ = some (.int .i64 3) := by rw [← hk]; exact cell_of hX hC.kind
  have k33 : w1.cell? ⟨w.heap.size, 33, none⟩ = some (.int .i64 m.from_) := cell_of hX hC.from_
  have k34 : w1.cell? ⟨w.heap.size, 34, none⟩ = some (.int .i64 m.to_) := cell_of hX hC.to_
  have hS := Lib.hid (hC.session.bs hX)
  replace hX := Lib.hid hX
  replace hB := Lib.hid hB
  replace hC := Lib.hid hC
  replace hM := Lib.hid hM
  go_wp2_with fail
  refine (need_same _ _ _ _).mono ?_
  rintro e w' ⟨rfl, rfl⟩
  go_wp2_with fail
  refine (need_same _ _ _ _).mono ?_
  rintro e w' ⟨rfl, rfl⟩
  go_wp2_with fail
  refine (need_same _ _ _ _).mono ?_
  rintro e w' ⟨rfl, rfl⟩
  go_wp2_with (at_builtin; go_must (refine wpList_append_bs _ rfl _ _ 22 rfl (w.heap.size + 1) i0 Tryd.underlying22 hi0 hz0 hz1 hz2 none 0 0 [] rfl rfl (OwnB.nil _ _) (some ⟨w.heap.size, 1, none⟩) 32 32 m.session hl rfl hS.out ?q1a ?q1b ?_))
  case q1a => simp; omega
  case q1b => omega
  intro A2 c2 w2 hO2 hg2 hat2
  have hX2 := grew_box (OwnB.nil w' (w.heap.size + 1)) hg2 hX.out (by decide)
  have hB2 := Lib.hid (below_grew hB.out (OwnB.nil w' (w.heap.size + 1)) (by omega) (by omega) hg2)
  have k33 : w2.cell? ⟨w.heap.size, 33, none⟩ = some (.int .i64 m.from_) := cell_of hX2 hC.out.from_
  have k34 : w2.cell? ⟨w.heap.size, 34, none⟩ = some (.int .i64 m.to_) := cell_of hX2 hC.out.to_
  replace hX2 := Lib.hid hX2
  have hs2 : w.heap.size < w2.heap.size := heap_lt hX2.out
  have e1 := nb_u8 f0
  have e2 := nb_u8 t0
  have e3 : m.from_ % 256 = m.from_ := by omega
  have e4 : m.to_ % 256 = m.to_ := by omega
  rw [e3] at e1
  rw [e4] at e2
  have hb2 := Bs.two w2 (u8 m.from_) (u8 m.to_) 5
  rw [e1, e2] at hb2
  replace hb2 := Lib.hid hb2
  replace hO2 := Lib.hid hO2
  replace e1 := Lib.hid e1
  replace e2 := Lib.hid e2
  clear hg2 hat2 hX hB hS k0
  go_wp2_with (at_builtin; go_must (refine wpList_append_bs _ rfl _ _ 22 rfl (w.heap.size + 1) i0 Tryd.underlying22 hi0 hz0 hz1 hz2 A2 32 c2 m.session hl rfl (hO2.out.on (boxed _ _)) (some ⟨w2.heap.size, 0, none⟩) 2 2 [u8 m.from_, u8 m.to_] rfl rfl hb2.out ?q2a ?q2b ?_))
  case q2a => simp; omega
  case q2b => simp; omega
  intro A3 c3 w3 hO3 hg3 hat3
  have hX3 := grew_box (hO2.out.on (boxed _ _)) hg3 (heap_on (boxed _ _) hX2.out) (by decide)
  have hB3 := Lib.hid (below_grew (later' hB2.out (boxed _ _)) (hO2.out.on (boxed _ _)) (by omega) (by simp; omega) hg3)
  have k0 : w3.cell? ⟨w.heap.size, 0, none⟩ = some (.int .i64 3) := by rw [← hk]; exact cell_of hX3 hC.out.kind
  replace hX3 := Lib.hid hX3
  replace hO3 := Lib.hid hO3
  have hs3 : w.heap.size < w3.heap.size := heap_lt hX3.out
  have hl3 : (m.session ++ [u8 m.from_, u8 m.to_]).length = 34 := by simp [hl]
  have hr3 : Hid (bodyM m = m.session ++ [u8 m.from_, u8 m.to_] ++ restM m) := Lib.hid rfl
  generalize m.session ++ [u8 m.from_, u8 m.to_] = P at hO3 hl3 hr3 ⊢
  clear hg3 hat3 hb2 hO2 hX2 hB2 hs2
  have k100 : w3.cell? ⟨w.heap.size, 100, none⟩ = some (.slice LA m.list.length lc) := cell_of hX3.out hC.out.list
  have k101 : w3.cell? ⟨w.heap.size, 101, none⟩ = some (.slice TA m.text.length tc) := cell_of hX3.out hC.out.text
  go_wp2_with fail
  refine (need_dec (by omega) _ _ _ _).mono ?_
  rintro e w3 ⟨rfl, rfl⟩
  have hb3 := Bs.one w3 (UInt8.ofNat m.list.length) 5
  rw [show nb (UInt8.ofNat m.list.length) = (m.list.length : Int) from by rw [b8_of]; omega] at hb3
  replace hb3 := Lib.hid hb3
  go_wp2_with (at_builtin; go_must (refine wpList_append_bs _ rfl _ _ 22 rfl (w.heap.size + 1) i0 Tryd.underlying22 hi0 hz0 hz1 hz2 A3 34 c3 P hl3 rfl (hO3.out.on (boxed _ _)) (some ⟨w3.heap.size, 0, none⟩) 1 1 [UInt8.ofNat m.list.length] rfl rfl hb3.out ?q3a ?q3b ?_))
  case q3a => simp [hl3]
  case q3b => simp; omega
  intro A4 c4 w4 hO4 hg4 hat4
  have hX4 := grew_box (hO3.out.on (boxed _ _)) hg4 (heap_on (boxed _ _) hX3.out) (by decide)
  have hB4 := Lib.hid (below_grew (later' hB3.out (boxed _ _)) (hO3.out.on (boxed _ _)) (by omega) (by simp; omega) hg4)
  have k100 : w4.cell? ⟨w.heap.size, 100, none⟩ = some (.slice LA m.list.length lc) := cell_of hX4 hC.out.list
  replace hX4 := Lib.hid hX4
  replace hO4 := Lib.hid hO4
  have hs4 : w.heap.size < w4.heap.size := heap_lt hX4.out
  clear hg4 hat4 hb3 hO3 hX3 hB3
  have hPl := hM.out.pok
  replace hPl := Lib.hid hPl
  have hrel0 : Hid (OwnB w4 (w.heap.size + 1) A4 c4 (P ++ UInt8.ofNat m.list.length :: pairsL (m.list.take 0))) := Lib.hid (by simpa [pairsL] using hO4.out)
  have hpl : Hid (∀ k, k ≤ m.list.length → (pairsL (m.list.take k)).length = 65 * k) := Lib.hid fun k hk => by
    rw [pairsL_len (fun i => ?_), List.length_take, Nat.min_eq_left hk]
    rw [List.getD_eq_getElem?_getD, List.getElem?_take]
    split
    · exact hPl.out i
    · exact pair0_ok
  have hzs : Tryd.zeroCells29.size = 65 := by kernel_rfl
  replace hzs := Lib.hid hzs
  go_wp2_with fail
  go_loopw [3, 75] (fun s x wr => ∃ (k : Nat) (A : Option Addr) (c : Nat), k ≤ i ∧ x = .int .i64 k ∧ s = .slice A (35 + 65 * k) c ∧ Hid (OwnB wr (w.heap.size + 1) A c (P ++ UInt8.ofNat m.list.length :: pairsL (m.list.take k))) ∧ Hid (wr.heap[w.heap.size]? = some (.cells cs 36 (0, 0))) ∧ Hid (Below w.heap.size w wr)) (fun _ x _ => m.list.length - (intOf x).toNat)
  case atStart => exact ⟨0, A4, c4, Nat.zero_le _, rfl, rfl, hrel0, hX4, hB4⟩
  case round =>
    obtain ⟨k, Ar, cr, hk1, rfl, rfl, hOr, hXr, hBr⟩ := hrel
    clear hX4 hB4 hO4 hs4 hrel0 k100 k101 k0
    have hsr : w.heap.size < wr.heap.size := heap_lt hXr.out
    rcases Nat.lt_or_ge k i with hlti | hge
    · have hlt : k < m.list.length := by omega
      obtain ⟨b, o, rfl, hc⟩ := hM.out.list (by omega)
      have hRA := Lib.hid ((hc k hlt).on hBr.out)
      clear hc
      have q1 : (0 : Int) ≤ (k : Int) := by omega
      have q2 : (k : Int) < (m.list.length : Int) := by omega
      have hpk := Lib.hid (hPl.out k)
      have hidk := Lib.hid (hids.out k hlti)
      have hts := Lib.hid (pairsL_take_succ hlt)
      have hlk : Hid ((P ++ UInt8.ofNat m.list.length :: pairsL (m.list.take k)).length = 35 + 65 * k) := Lib.hid (by
        have := hpl.out k (by omega)
        simp [hl3] at this ⊢
        omega)
      generalize m.list.getD k Pair.zero = pk at hRA hpk hidk hts
      have hifP : (Tryd.prog.info? 29).map (·.size) = some (pairA pk).size := by rw [pairA_size hpk.out]; kernel_rfl
      have hzc : Tryd.zeroCells29.size = (pairA pk).size := by rw [pairA_size hpk.out]; exact hzs.out
      have hone : (pairA pk).all (·.oneCell') = true := pairA_one pk
      have hz := Lib.hid (heap_alloc_new wr (.cells Tryd.zeroCells29 29))
      have hrow : (wr.alloc (.cells Tryd.zeroCells29 29)).setRow wr.heap.size (pairA pk) = wr.alloc (.cells (pairA pk) 29) := World.setRow_alloc_new _ _ _ _
      replace hrow := Lib.hid hrow
      go_upto_region 16 with (first | (refine wpList_loadM _ rfl _ _ rfl b (o + k * 65) rfl (pairA pk) hRA.out _ Tryd.underlying29 rfl hifP ?_) | (refine wpList_storeW _ rfl _ _ _ rfl wr.heap.size (pairA pk) rfl rfl _ _ hz.out hifP hzc hone ?_))
      rw [hrow.out]
      have hP5 := heap_alloc_new wr (.cells (pairA pk) 29)
      have hX5 := Lib.hid (heap_on (boxed wr (.cells (pairA pk) 29)) hXr.out)
      have hB5 := Lib.hid (later' hBr.out (boxed wr (.cells (pairA pk) 29)))
      have hO5 := Lib.hid (hOr.out.on (boxed wr (.cells (pairA pk) 29)))
      have hs5 : (wr.alloc (.cells (pairA pk) 29)).heap.size = wr.heap.size + 1 := by simp
      clear hrow hz hOr hXr hBr hRA hzc hone
      generalize wr.alloc (.cells (pairA pk) 29) = w5 at hP5 hX5 hB5 hO5 hs5 ⊢
      have kid : w5.cell? ⟨wr.heap.size, 0, none⟩ = some (.int .i64 pk.id) := cell_of hP5 (pairA_get0 pk)
      have hR5 := Lib.hid (rowAt_pair hP5)
      clear hP5
      obtain ⟨p1, p2⟩ := isId_true.1 hidk.out
      go_wp2_with fail
      refine (isID_any _ _).mono ?_
      rintro e w' ⟨rfl, rfl⟩
      rw [hidk.out]
      go_wp2_with fail
      refine (need_same _ _ _ _).mono ?_
      rintro e w5 ⟨rfl, rfl⟩
      go_wp2_with (refine wpList_loadM _ rfl _ _ rfl wr.heap.size 0 rfl (pairA pk) hR5.out _ Tryd.underlying29 rfl hifP ?_)
      refine (putPair_any (w.heap.size + 1) Ar (35 + 65 * k) cr _ pk _ hpk.out (by omega) (by omega) hO5.out hlk.out (by omega) (by omega)).mono ?_
      rintro e w6 ⟨A6, c6, rfl, hO6, hB6, hT6⟩
      have hX6 := hT6 _ cs 36 _ hX5.out (by decide)
      have hB16 := Lib.hid (hB5.out.trans (hB6.mono (by omega)))
      replace hX6 := Lib.hid hX6
      have hO66 : OwnB w6 (w.heap.size + 1) A6 c6 (P ++ UInt8.ofNat m.list.length :: pairsL (m.list.take (k + 1))) := by
        rw [hts.out]
        simpa using hO6
      replace hO66 := Lib.hid hO66
      clear hT6 hB6 hO6 hR5 kid
      go_wp2_with fail
      exact ⟨⟨k + 1, A6, c6, by omega, by go_num, by congr 1, hO66, hX6, hB16⟩, by simp [intOf]; omega⟩
    · have : k = i := by omega
      subst this
      clear hk1 hge
      by_cases hlt : k < m.list.length
      · obtain rfl := hf1.out hlt
        obtain ⟨b, o, rfl, hc⟩ := hM.out.list (by omega)
        have hRA := Lib.hid ((hc k hlt).on hBr.out)
        clear hc
        have q1 : (0 : Int) ≤ (k : Int) := by omega
        have q2 : (k : Int) < (m.list.length : Int) := by omega
        have hpk := Lib.hid (hPl.out k)
        have hidk := Lib.hid (hbad.out hlt)
        generalize m.list.getD k Pair.zero = pk at hRA hpk hidk
        have hifP : (Tryd.prog.info? 29).map (·.size) = some (pairA pk).size := by rw [pairA_size hpk.out]; kernel_rfl
        have hzc : Tryd.zeroCells29.size = (pairA pk).size := by rw [pairA_size hpk.out]; exact hzs.out
        have hone : (pairA pk).all (·.oneCell') = true := pairA_one pk
        have hz := Lib.hid (heap_alloc_new wr (.cells Tryd.zeroCells29 29))
        have hrow : (wr.alloc (.cells Tryd.zeroCells29 29)).setRow wr.heap.size (pairA pk) = wr.alloc (.cells (pairA pk) 29) := World.setRow_alloc_new _ _ _ _
        replace hrow := Lib.hid hrow
        go_upto_region 16 with (first | (refine wpList_loadM _ rfl _ _ rfl b (o + k * 65) rfl (pairA pk) hRA.out _ Tryd.underlying29 rfl hifP ?_) | (refine wpList_storeW _ rfl _ _ _ rfl wr.heap.size (pairA pk) rfl rfl _ _ hz.out hifP hzc hone ?_))
        rw [hrow.out]
        have hP5 := heap_alloc_new wr (.cells (pairA pk) 29)
        have hB5 := Lib.hid (later' hBr.out (boxed wr (.cells (pairA pk) 29)))
        have hs5 : (wr.alloc (.cells (pairA pk) 29)).heap.size = wr.heap.size + 1 := by simp
        clear hrow hz hOr hXr hBr hRA hzc hone
        generalize wr.alloc (.cells (pairA pk) 29) = w5 at hP5 hB5 hs5 ⊢
        have kid : w5.cell? ⟨wr.heap.size, 0, none⟩ = some (.int .i64 pk.id) := cell_of hP5 (pairA_get0 pk)
        clear hP5
        go_wp2_with fail
        refine (isID_any _ _).mono ?_
        rintro e w' ⟨rfl, rfl⟩
        rw [hidk.out]
        go_wp2_with fail
        refine (need_false kList k 4 _).mono ?_
        rintro e w6 ⟨q, rfl, hq, hF, hB6⟩
        have hB16 := Lib.hid (later' hB5.out hB6)
        replace hF := Lib.hid hF
        clear hB5 hB6
        go_wp2_with fail
        exact ⟨rfl, q, rfl, by omega, hF.out, hB16.out⟩
      · have hkl : k = m.list.length := by omega
        obtain rfl := hf2.out hkl
        clear hf1 hf2
        subst hkl
        have htl := hend.out rfl
        have k101 : wr.cell? ⟨w.heap.size, 101, none⟩ = some (.slice TA m.text.length tc) := cell_of hXr.out hC.out.text
        go_wp2_with fail
        rw [decide_eq_false (by omega)]
        refine (need_false kText 0 10 _).mono ?_
        rintro e w6 ⟨q, rfl, hq, hF, hB6⟩
        have hB16 := Lib.hid (later' hBr.out hB6)
        replace hF := Lib.hid hF
        clear hBr hB6
        go_wp2_with fail
        exact ⟨rfl, q, rfl, by omega, hF.out, hB16.out⟩
end Go.Proofs.YtmnmmabhmedioaaDoor
