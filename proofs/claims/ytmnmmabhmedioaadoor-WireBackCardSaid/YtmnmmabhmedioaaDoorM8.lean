/- Wire: the body of a message, by its kind; its faults. (Printed by gen_body.py.) -/
import Derived.Test.YtmnmmabhmedioaaDoorM7
import Derived.Test.YtmnmmabhmedioaaDoorM6
namespace Go.Proofs.YtmnmmabhmedioaaDoor
open Go.RowKit
set_option linter.unusedVariables false
set_option linter.unusedSimpArgs false
set_option maxRecDepth 100000

theorem isID_any (n : Int) (w : World) : Calls Tryd.prog 82 #[.int .i64 n] w fun e w' => e = .returned (.bool (isId n)) ∧ w' = w := by
  by_cases h0 : 1 ≤ n
  · by_cases h1 : n ≤ 255
    · go_enter Tryd.func82, Tryd.ntmps82
      go_wp2
      go_ret
      exact ⟨by simp [isId, h0, h1], rfl⟩
    · go_enter Tryd.func82, Tryd.ntmps82
      go_wp2
      go_ret
      exact ⟨by simp [isId, h0, h1], rfl⟩
  · go_enter Tryd.func82, Tryd.ntmps82
    go_wp2
    go_ret
    exact ⟨by simp [isId]; omega, rfl⟩
theorem grew_box {w w' : World} {base : Nat} {A : Option Addr} {c n : Nat} {l : List UInt8} (hO : OwnB w base A c l) (hg : w.grownBy w' (Value.slice A n c).ownBlock) {X : Nat} {cs : Array Value} {T : TypeId} {fz : Nat × Nat}
    (hX : w.heap[X]? = some (.cells cs T fz)) (hT : T ≠ 5) : w'.heap[X]? = some (.cells cs T fz) :=
  (keep_grew (D := fun k => k ≠ X) hg (fun a ha => hO.ne hX hT a ha)).heap (by simp) hX
theorem rowAt_pair {w : World} {X : Nat} {p : Pair} {T : TypeId} (hX : w.heap[X]? = some (.cells (pairA p) T (0, 0))) : RowAt w X 0 (pairA p) := fun j v hv => by
  rw [Nat.zero_add]
  exact cell_of hX hv
theorem pairA_get0 (p : Pair) : (pairA p)[0]? = some (.int .i64 p.id) := by
  unfold pairA
  rw [Array.append_assoc, Array.getElem?_append_left (by simp)]
  rfl
theorem pairA_hid {p : Pair} (h : PairOk p) (i : Nat) (hi : i < 32) : (pairA p)[1 + i]? = some (B8 (p.hid.getD i 0)) := by
  unfold pairA
  rw [Array.append_assoc, Array.getElem?_append_right (by simp), Array.getElem?_append_left (by simp [arrB, h.1]; omega)]
  simp only [List.size_toArray, List.length_cons, List.length_nil]
  rw [show 1 + i - (0 + 1) = i from by omega, arrB, List.getElem?_toArray, List.getElem?_map, List.getD_eq_getElem?_getD, List.getElem?_eq_getElem (by rw [h.1]; exact hi)]
  rfl
theorem pairA_bnd {p : Pair} (h : PairOk p) (i : Nat) (hi : i < 32) : (pairA p)[33 + i]? = some (B8 (p.bnd.getD i 0)) := by
  unfold pairA
  rw [Array.getElem?_append_right (by simp [arrB, h.1])]
  simp only [Array.size_append, List.size_toArray, List.length_cons, List.length_nil, arrB, List.length_map, h.1]
  rw [show 33 + i - (0 + 1 + 32) = i from by omega, List.getElem?_toArray, List.getElem?_map, List.getD_eq_getElem?_getD, List.getElem?_eq_getElem (by rw [h.2]; exact hi)]
  rfl

set_option maxHeartbeats 8000000 in
theorem putPair_any (base : Nat) (A : Option Addr) (n c : Nat) (xs : List UInt8) (p : Pair) (w : World) (hp : PairOk p) (h0 : 0 ≤ p.id) (h1 : p.id ≤ 255) (hO : OwnB w base A c xs) (hn : xs.length = n) (hs : n ≤ 70368744177664) (hb : base ≤ w.heap.size) :
    Calls Tryd.prog 83 #[.slice A n c, .agg (pairA p)] w fun e w' => ∃ A' c', e = .returned (.slice A' (n + 65) c') ∧ OwnB w' base A' c' (xs ++ pairL p) ∧ Below base w w' ∧ ∀ (X : Nat) (cs : Array Value) (T : TypeId) (fz : Nat × Nat), w.heap[X]? = some (Obj.cells cs T fz) → T ≠ 5 → w'.heap[X]? = some (Obj.cells cs T fz) := by
  obtain ⟨i0, hi0, hz0, hz1, hz2⟩ := info_parts inf5
  have hX := heap_alloc_new w (.cells (pairA p) 29)
  have hB := boxed w (.cells (pairA p) 29)
  have hsz : (w.alloc (.cells (pairA p) 29)).heap.size = w.heap.size + 1 := by simp
  have hO1 := Lib.hid (hO.on hB)
  replace hO := Lib.hid hO
  go_enter Tryd.func83, Tryd.ntmps83
  go_upto_region 1 with fail
  generalize w.alloc (.cells (pairA p) 29) = w1 at hX hB hsz hO1 ⊢
  have k0 : w1.cell? ⟨w.heap.size, 0, none⟩ = some (.int .i64 p.id) := cell_of hX (pairA_get0 p)
  have e1 := nb_u8 h0
  rw [show p.id % 256 = p.id by omega] at e1
  have hb1 := Bs.one w1 (u8 p.id) 5
  rw [e1, hsz] at hb1
  replace hb1 := Lib.hid hb1
  replace e1 := Lib.hid e1
  replace hX := Lib.hid hX
  replace hB := Lib.hid hB
  go_wp2_with (at_builtin; go_must (refine wpList_append_bs _ rfl _ _ 22 rfl base i0 Tryd.underlying22 hi0 hz0 hz1 hz2 A n c xs hn rfl (hO1.out.on (boxed _ _)) (some ⟨w.heap.size + 1, 0, none⟩) 1 1 [u8 p.id] rfl rfl hb1.out ?q1a ?q1b ?_))
  case q1a => simp; omega
  case q1b => simp; omega
  intro A2 c2 w2 hO2 hg2 hat2
  have hX2 := grew_box (hO1.out.on (boxed _ _)) hg2 (heap_on (boxed _ _) hX.out) (by decide)
  have hB2 := Lib.hid (below_grew (B := base) ((hB.out.mono hb).trans ((boxed w1 (.cells #[.int .u8 p.id] 5)).mono (by omega))) (hO1.out.on (boxed _ _)) (Nat.le_refl _) (by simp; omega) hg2)
  have hT2 : Hid (∀ (X : Nat) (cs : Array Value) (T : TypeId) (fz : Nat × Nat), w.heap[X]? = some (Obj.cells cs T fz) → T ≠ 5 → w2.heap[X]? = some (Obj.cells cs T fz)) := Lib.hid fun X cs T fz h hT => grew_box (hO1.out.on (boxed _ _)) hg2 (heap_on (boxed _ _) (heap_on hB.out h)) hT
  have hs2 := hB2.out.size
  have hhid : Bs w2 (some ⟨w.heap.size, 1, none⟩) p.hid := Bs.arr fun i hi => cell_of hX2 (pairA_hid hp i (by rw [← hp.1]; exact hi))
  replace hhid := Lib.hid hhid
  replace hO2 := Lib.hid hO2
  replace hX2 := Lib.hid hX2
  have hl1 := hp.1
  have hl2 := hp.2
  clear hg2 hat2 hb1 hO1 k0
  go_wp2_with (at_builtin; go_must (refine wpList_append_bs _ rfl _ _ 22 rfl base i0 Tryd.underlying22 hi0 hz0 hz1 hz2 A2 (n + 1) c2 (xs ++ [u8 p.id]) (by simp [hn]) rfl hO2.out (some ⟨w.heap.size, 1, none⟩) 32 32 p.hid hl1 rfl hhid.out ?q2a ?q2b ?_))
  case q2a => simp; omega
  case q2b => omega
  intro A3 c3 w3 hO3 hg3 hat3
  have hX3 := grew_box hO2.out hg3 hX2.out (by decide)
  have hB3 := Lib.hid (below_grew hB2.out hO2.out (Nat.le_refl _) (by omega) hg3)
  have hT3 : Hid (∀ (X : Nat) (cs : Array Value) (T : TypeId) (fz : Nat × Nat), w.heap[X]? = some (Obj.cells cs T fz) → T ≠ 5 → w3.heap[X]? = some (Obj.cells cs T fz)) := Lib.hid fun X cs T fz h hT => grew_box hO2.out hg3 (hT2.out X cs T fz h hT) hT
  have hs3 := hB3.out.size
  have hbnd : Bs w3 (some ⟨w.heap.size, 33, none⟩) p.bnd := Bs.arr fun i hi => cell_of hX3 (pairA_bnd hp i (by rw [← hp.2]; exact hi))
  replace hbnd := Lib.hid hbnd
  replace hO3 := Lib.hid hO3
  clear hg3 hat3 hX3 hX2 hhid hO2 hB2 hT2
  go_wp2_with (at_builtin; go_must (refine wpList_append_bs _ rfl _ _ 22 rfl base i0 Tryd.underlying22 hi0 hz0 hz1 hz2 A3 (n + 33) c3 (xs ++ u8 p.id :: p.hid) (by simp [hn, hl1]) rfl hO3.out (some ⟨w.heap.size, 33, none⟩) 32 32 p.bnd hl2 rfl hbnd.out ?q3a ?q3b ?_))
  case q3a => simp; omega
  case q3b => omega
  intro A4 c4 w4 hO4 hg4 hat4
  have hB4 := Lib.hid (below_grew hB3.out hO3.out (Nat.le_refl _) (by omega) hg4)
  have hT4 : Hid (∀ (X : Nat) (cs : Array Value) (T : TypeId) (fz : Nat × Nat), w.heap[X]? = some (Obj.cells cs T fz) → T ≠ 5 → w4.heap[X]? = some (Obj.cells cs T fz)) := Lib.hid fun X cs T fz h hT => grew_box hO3.out hg4 (hT3.out X cs T fz h hT) hT
  replace hO4 := Lib.hid hO4
  clear hg4 hat4
  go_wp2_with fail
  go_ret
  refine ⟨A4, c4, rfl, ?_, hB4.out, hT4.out⟩
  have h := hO4.out
  simpa [pairL] using h

set_option maxHeartbeats 8000000 in
theorem body_1 (cs : Array Value) (m : Msg) (LA : Option Addr) (lc : Nat) (TA : Option Addr) (tc : Nat) (w : World) (hM : MsgIn w cs m LA lc TA tc) (hk : m.kind = 1) (f0 : 0 ≤ m.from_) (f1 : m.from_ ≤ 255) (t0 : 0 ≤ m.to_) (t1 : m.to_ ≤ 255) : Calls Tryd.prog 52 #[.agg cs] w (Body w (bodyM m).length (bodyM m)) := by
  obtain ⟨i0, hi0, hz0, hz1, hz2⟩ := info_parts inf5
  have hX := heap_alloc_new w (.cells cs 36)
  have hB := boxed w (.cells cs 36)
  have hs : (w.alloc (.cells cs 36)).heap.size = w.heap.size + 1 := by simp
  have hC := hM.cells
  have hl := hC.session.1
  go_enter Tryd.func52, Tryd.ntmps52
  go_upto_region 1 with fail
  generalize w.alloc (.cells cs 36) = w1 at hX hB hs ⊢
  have k0 : w1.cell? ⟨w.heap.size, 0, none⟩ = some (.int .i64 1) := by rw [← hk]; exact cell_of hX hC.kind
  have k33 : w1.cell? ⟨w.heap.size, 33, none⟩ = some (.int .i64 m.from_) := cell_of hX hC.from_
  have k34 : w1.cell? ⟨w.heap.size, 34, none⟩ = some (.int .i64 m.to_) := cell_of hX hC.to_
  have hS := Lib.hid (hC.session.bs hX)
  replace hX := Lib.hid hX
  replace hB := Lib.hid hB
  replace hC := Lib.hid hC
  replace hM := Lib.hid hM
  go_wp2_with fail
  refine (need_same _ _ _ _).mono ?_
  rintro e w' ⟨rfl, rfl⟩
  go_wp2_with fail
  refine (need_same _ _ _ _).mono ?_
  rintro e w' ⟨rfl, rfl⟩
  go_wp2_with fail
  refine (need_same _ _ _ _).mono ?_
  rintro e w' ⟨rfl, rfl⟩
  go_wp2_with (at_builtin; go_must (refine wpList_append_bs _ rfl _ _ 22 rfl (w.heap.size + 1) i0 Tryd.underlying22 hi0 hz0 hz1 hz2 none 0 0 [] rfl rfl (OwnB.nil _ _) (some ⟨w.heap.size, 1, none⟩) 32 32 m.session hl rfl hS.out ?q1a ?q1b ?_))
  case q1a => simp; omega
  case q1b => omega
  intro A2 c2 w2 hO2 hg2 hat2
  have hX2 := grew_box (OwnB.nil w' (w.heap.size + 1)) hg2 hX.out (by decide)
  have hB2 := Lib.hid (below_grew hB.out (OwnB.nil w' (w.heap.size + 1)) (by omega) (by omega) hg2)
  have k33 : w2.cell? ⟨w.heap.size, 33, none⟩ = some (.int .i64 m.from_) := cell_of hX2 hC.out.from_
  have k34 : w2.cell? ⟨w.heap.size, 34, none⟩ = some (.int .i64 m.to_) := cell_of hX2 hC.out.to_
  replace hX2 := Lib.hid hX2
  have hs2 : w.heap.size < w2.heap.size := heap_lt hX2.out
  have e1 := nb_u8 f0
  have e2 := nb_u8 t0
  have e3 : m.from_ % 256 = m.from_ := by omega
  have e4 : m.to_ % 256 = m.to_ := by omega
  rw [e3] at e1
  rw [e4] at e2
  have hb2 := Bs.two w2 (u8 m.from_) (u8 m.to_) 5
  rw [e1, e2] at hb2
  replace hb2 := Lib.hid hb2
  replace hO2 := Lib.hid hO2
  replace e1 := Lib.hid e1
  replace e2 := Lib.hid e2
  clear hg2 hat2 hX hB hS k0
  go_wp2_with (at_builtin; go_must (refine wpList_append_bs _ rfl _ _ 22 rfl (w.heap.size + 1) i0 Tryd.underlying22 hi0 hz0 hz1 hz2 A2 32 c2 m.session hl rfl (hO2.out.on (boxed _ _)) (some ⟨w2.heap.size, 0, none⟩) 2 2 [u8 m.from_, u8 m.to_] rfl rfl hb2.out ?q2a ?q2b ?_))
  case q2a => simp; omega
  case q2b => simp; omega
  intro A3 c3 w3 hO3 hg3 hat3
  have hX3 := grew_box (hO2.out.on (boxed _ _)) hg3 (heap_on (boxed _ _) hX2.out) (by decide)
  have hB3 := Lib.hid (below_grew (later' hB2.out (boxed _ _)) (hO2.out.on (boxed _ _)) (by omega) (by simp; omega) hg3)
  have k0 : w3.cell? ⟨w.heap.size, 0, none⟩ = some (.int .i64 1) := by rw [← hk]; exact cell_of hX3 hC.out.kind
  replace hX3 := Lib.hid hX3
  replace hO3 := Lib.hid hO3
  have hs3 : w.heap.size < w3.heap.size := heap_lt hX3.out
  have hl3 : (m.session ++ [u8 m.from_, u8 m.to_]).length = 34 := by simp [hl]
  have hr3 : Hid (bodyM m = m.session ++ [u8 m.from_, u8 m.to_] ++ restM m) := Lib.hid rfl
  generalize m.session ++ [u8 m.from_, u8 m.to_] = P at hO3 hl3 hr3 ⊢
  clear hg3 hat3 hb2 hO2 hX2 hB2 hs2
  have hlen : (bodyM m).length = 34 := by rw [hr3.out]; simp [restM, hk, hl3]
  go_wp2_with fail
  go_ret
  refine ⟨A3, c3, (congrArg (fun k => Ending.returned (Value.slice A3 k c3)) hlen).symm, ?_, hB3.out⟩
  · have h := OwnB.lower (B := w.heap.size) hO3.out (Nat.le_succ _)
    rw [hr3.out]
    simpa [restM, hk] using h

set_option maxHeartbeats 8000000 in
theorem body_2 (cs : Array Value) (m : Msg) (LA : Option Addr) (lc : Nat) (TA : Option Addr) (tc : Nat) (w : World) (hM : MsgIn w cs m LA lc TA tc) (hk : m.kind = 2) (f0 : 0 ≤ m.from_) (f1 : m.from_ ≤ 255) (t0 : 0 ≤ m.to_) (t1 : m.to_ ≤ 255) (hid : isId m.pair.id = true) : Calls Tryd.prog 52 #[.agg cs] w (Body w (bodyM m).length (bodyM m)) := by
  obtain ⟨i0, hi0, hz0, hz1, hz2⟩ := info_parts inf5
  have hX := heap_alloc_new w (.cells cs 36)
  have hB := boxed w (.cells cs 36)
  have hs : (w.alloc (.cells cs 36)).heap.size = w.heap.size + 1 := by simp
  have hC := hM.cells
  have hl := hC.session.1
  go_enter Tryd.func52, Tryd.ntmps52
  go_upto_region 1 with fail
  generalize w.alloc (.cells cs 36) = w1 at hX hB hs ⊢
  have k0 : w1.cell? ⟨w.heap.size, 0, none⟩ = some (.int .i64 2) := by rw [← hk]; exact cell_of hX hC.kind
  have k33 : w1.cell? ⟨w.heap.size, 33, none⟩ = some (.int .i64 m.from_) := cell_of hX hC.from_
  have k34 : w1.cell? ⟨w.heap.size, 34, none⟩ = some (.int .i64 m.to_) := cell_of hX hC.to_
  have hS := Lib.hid (hC.session.bs hX)
  replace hX := Lib.hid hX
  replace hB := Lib.hid hB
  replace hC := Lib.hid hC
  replace hM := Lib.hid hM
  go_wp2_with fail
  refine (need_same _ _ _ _).mono ?_
  rintro e w' ⟨rfl, rfl⟩
  go_wp2_with fail
  refine (need_same _ _ _ _).mono ?_
  rintro e w' ⟨rfl, rfl⟩
  go_wp2_with fail
  refine (need_same _ _ _ _).mono ?_
  rintro e w' ⟨rfl, rfl⟩
  go_wp2_with (at_builtin; go_must (refine wpList_append_bs _ rfl _ _ 22 rfl (w.heap.size + 1) i0 Tryd.underlying22 hi0 hz0 hz1 hz2 none 0 0 [] rfl rfl (OwnB.nil _ _) (some ⟨w.heap.size, 1, none⟩) 32 32 m.session hl rfl hS.out ?q1a ?q1b ?_))
  case q1a => simp; omega
  case q1b => omega
  intro A2 c2 w2 hO2 hg2 hat2
  have hX2 := grew_box (OwnB.nil w' (w.heap.size + 1)) hg2 hX.out (by decide)
  have hB2 := Lib.hid (below_grew hB.out (OwnB.nil w' (w.heap.size + 1)) (by omega) (by omega) hg2)
  have k33 : w2.cell? ⟨w.heap.size, 33, none⟩ = some (.int .i64 m.from_) := cell_of hX2 hC.out.from_
  have k34 : w2.cell? ⟨w.heap.size, 34, none⟩ = some (.int .i64 m.to_) := cell_of hX2 hC.out.to_
  replace hX2 := Lib.hid hX2
  have hs2 : w.heap.size < w2.heap.size := heap_lt hX2.out
  have e1 := nb_u8 f0
  have e2 := nb_u8 t0
  have e3 : m.from_ % 256 = m.from_ := by omega
  have e4 : m.to_ % 256 = m.to_ := by omega
  rw [e3] at e1
  rw [e4] at e2
  have hb2 := Bs.two w2 (u8 m.from_) (u8 m.to_) 5
  rw [e1, e2] at hb2
  replace hb2 := Lib.hid hb2
  replace hO2 := Lib.hid hO2
  replace e1 := Lib.hid e1
  replace e2 := Lib.hid e2
  clear hg2 hat2 hX hB hS k0
  go_wp2_with (at_builtin; go_must (refine wpList_append_bs _ rfl _ _ 22 rfl (w.heap.size + 1) i0 Tryd.underlying22 hi0 hz0 hz1 hz2 A2 32 c2 m.session hl rfl (hO2.out.on (boxed _ _)) (some ⟨w2.heap.size, 0, none⟩) 2 2 [u8 m.from_, u8 m.to_] rfl rfl hb2.out ?q2a ?q2b ?_))
  case q2a => simp; omega
  case q2b => simp; omega
  intro A3 c3 w3 hO3 hg3 hat3
  have hX3 := grew_box (hO2.out.on (boxed _ _)) hg3 (heap_on (boxed _ _) hX2.out) (by decide)
  have hB3 := Lib.hid (below_grew (later' hB2.out (boxed _ _)) (hO2.out.on (boxed _ _)) (by omega) (by simp; omega) hg3)
  have k0 : w3.cell? ⟨w.heap.size, 0, none⟩ = some (.int .i64 2) := by rw [← hk]; exact cell_of hX3 hC.out.kind
  replace hX3 := Lib.hid hX3
  replace hO3 := Lib.hid hO3
  have hs3 : w.heap.size < w3.heap.size := heap_lt hX3.out
  have hl3 : (m.session ++ [u8 m.from_, u8 m.to_]).length = 34 := by simp [hl]
  have hr3 : Hid (bodyM m = m.session ++ [u8 m.from_, u8 m.to_] ++ restM m) := Lib.hid rfl
  generalize m.session ++ [u8 m.from_, u8 m.to_] = P at hO3 hl3 hr3 ⊢
  clear hg3 hat3 hb2 hO2 hX2 hB2 hs2
  have hPK : PairOk m.pair := ⟨hC.out.hid.1, hC.out.bnd.1⟩
  have hPA := Lib.hid (pairAt_of hX3.out hC.out)
  have hifP : (Tryd.prog.info? 29).map (·.size) = some (pairA m.pair).size := by rw [pairA_size hPK]; kernel_rfl
  have k35 : w3.cell? ⟨w.heap.size, 35, none⟩ = some (.int .i64 m.pair.id) := cell_of hX3.out hC.out.pid
  obtain ⟨p1, p2⟩ := isId_true.1 hid
  replace hPK := Lib.hid hPK
  go_wp2_with fail
  refine (isID_any _ _).mono ?_
  rintro e w' ⟨rfl, rfl⟩
  rw [hid]
  go_wp2_with fail
  refine (need_same _ _ _ _).mono ?_
  rintro e w3 ⟨rfl, rfl⟩
  go_wp2_with (refine wpList_loadM _ rfl _ _ rfl w.heap.size 35 rfl (pairA m.pair) hPA.out _ Tryd.underlying29 rfl hifP ?_)
  refine (putPair_any (w.heap.size + 1) A3 34 c3 P m.pair _ hPK.out (by omega) (by omega) hO3.out hl3 (by omega) (by omega)).mono ?_
  rintro e w4 ⟨A4, c4, rfl, hO4, hB34, hT4⟩
  have hX4 := hT4 _ cs 36 _ hX3.out (by decide)
  have hB4 := Lib.hid ((hB3.out.trans (hB34.mono (by omega))))
  have hs4 : w.heap.size < w4.heap.size := heap_lt hX4
  have hl4 : (P ++ pairL m.pair).length = 99 := by rw [List.length_append, hl3, pairL_len hPK.out]
  have hp65 := pairL_len hPK.out
  replace hX4 := Lib.hid hX4
  replace hO4 := Lib.hid hO4
  clear hT4 hB34 k0 k35 hPA hifP
  have hlen : (bodyM m).length = 99 := by rw [hr3.out]; simpa [restM, hk] using hl4
  go_wp2_with fail
  go_ret
  refine ⟨A4, c4, (congrArg (fun k => Ending.returned (Value.slice A4 k c4)) hlen).symm, ?_, hB4.out⟩
  have h := OwnB.lower (B := w.heap.size) hO4.out (Nat.le_succ _)
  rw [hr3.out]
  simpa [restM, hk, pairL, List.append_assoc] using h

set_option maxHeartbeats 8000000 in
theorem body_4 (cs : Array Value) (m : Msg) (LA : Option Addr) (lc : Nat) (TA : Option Addr) (tc : Nat) (w : World) (hM : MsgIn w cs m LA lc TA tc) (hk : m.kind = 4) (f0 : 0 ≤ m.from_) (f1 : m.from_ ≤ 255) (t0 : 0 ≤ m.to_) (t1 : m.to_ ≤ 255) (hid : isId m.pair.id = true) : Calls Tryd.prog 52 #[.agg cs] w (Body w (bodyM m).length (bodyM m)) := by
  obtain ⟨i0, hi0, hz0, hz1, hz2⟩ := info_parts inf5
  have hX := heap_alloc_new w (.cells cs 36)
  have hB := boxed w (.cells cs 36)
  have hs : (w.alloc (.cells cs 36)).heap.size = w.heap.size + 1 := by simp
  have hC := hM.cells
  have hl := hC.session.1
  go_enter Tryd.func52, Tryd.ntmps52
  go_upto_region 1 with fail
  generalize w.alloc (.cells cs 36) = w1 at hX hB hs ⊢
  have k0 : w1.cell? ⟨w.heap.size, 0, none⟩ = some (.int .i64 4) := by rw [← hk]; exact cell_of hX hC.kind
  have k33 : w1.cell? ⟨w.heap.size, 33, none⟩ = some (.int .i64 m.from_) := cell_of hX hC.from_
  have k34 : w1.cell? ⟨w.heap.size, 34, none⟩ = some (.int .i64 m.to_) := cell_of hX hC.to_
  have hS := Lib.hid (hC.session.bs hX)
  replace hX := Lib.hid hX
  replace hB := Lib.hid hB
  replace hC := Lib.hid hC
  replace hM := Lib.hid hM
  go_wp2_with fail
  refine (need_same _ _ _ _).mono ?_
  rintro e w' ⟨rfl, rfl⟩
  go_wp2_with fail
  refine (need_same _ _ _ _).mono ?_
  rintro e w' ⟨rfl, rfl⟩
  go_wp2_with fail
  refine (need_same _ _ _ _).mono ?_
  rintro e w' ⟨rfl, rfl⟩
  go_wp2_with (at_builtin; go_must (refine wpList_append_bs _ rfl _ _ 22 rfl (w.heap.size + 1) i0 Tryd.underlying22 hi0 hz0 hz1 hz2 none 0 0 [] rfl rfl (OwnB.nil _ _) (some ⟨w.heap.size, 1, none⟩) 32 32 m.session hl rfl hS.out ?q1a ?q1b ?_))
  case q1a => simp; omega
  case q1b => omega
  intro A2 c2 w2 hO2 hg2 hat2
  have hX2 := grew_box (OwnB.nil w' (w.heap.size + 1)) hg2 hX.out (by decide)
  have hB2 := Lib.hid (below_grew hB.out (OwnB.nil w' (w.heap.size + 1)) (by omega) (by omega) hg2)
  have k33 : w2.cell? ⟨w.heap.size, 33, none⟩ = some (.int .i64 m.from_) := cell_of hX2 hC.out.from_
  have k34 : w2.cell? ⟨w.heap.size, 34, none⟩ = some (.int .i64 m.to_) := cell_of hX2 hC.out.to_
  replace hX2 := Lib.hid hX2
  have hs2 : w.heap.size < w2.heap.size := heap_lt hX2.out
  have e1 := nb_u8 f0
  have e2 := nb_u8 t0
  have e3 : m.from_ % 256 = m.from_ := by omega
  have e4 : m.to_ % 256 = m.to_ := by omega
  rw [e3] at e1
  rw [e4] at e2
  have hb2 := Bs.two w2 (u8 m.from_) (u8 m.to_) 5
  rw [e1, e2] at hb2
  replace hb2 := Lib.hid hb2
  replace hO2 := Lib.hid hO2
  replace e1 := Lib.hid e1
  replace e2 := Lib.hid e2
  clear hg2 hat2 hX hB hS k0
  go_wp2_with (at_builtin; go_must (refine wpList_append_bs _ rfl _ _ 22 rfl (w.heap.size + 1) i0 Tryd.underlying22 hi0 hz0 hz1 hz2 A2 32 c2 m.session hl rfl (hO2.out.on (boxed _ _)) (some ⟨w2.heap.size, 0, none⟩) 2 2 [u8 m.from_, u8 m.to_] rfl rfl hb2.out ?q2a ?q2b ?_))
  case q2a => simp; omega
  case q2b => simp; omega
  intro A3 c3 w3 hO3 hg3 hat3
  have hX3 := grew_box (hO2.out.on (boxed _ _)) hg3 (heap_on (boxed _ _) hX2.out) (by decide)
  have hB3 := Lib.hid (below_grew (later' hB2.out (boxed _ _)) (hO2.out.on (boxed _ _)) (by omega) (by simp; omega) hg3)
  have k0 : w3.cell? ⟨w.heap.size, 0, none⟩ = some (.int .i64 4) := by rw [← hk]; exact cell_of hX3 hC.out.kind
  replace hX3 := Lib.hid hX3
  replace hO3 := Lib.hid hO3
  have hs3 : w.heap.size < w3.heap.size := heap_lt hX3.out
  have hl3 : (m.session ++ [u8 m.from_, u8 m.to_]).length = 34 := by simp [hl]
  have hr3 : Hid (bodyM m = m.session ++ [u8 m.from_, u8 m.to_] ++ restM m) := Lib.hid rfl
  generalize m.session ++ [u8 m.from_, u8 m.to_] = P at hO3 hl3 hr3 ⊢
  clear hg3 hat3 hb2 hO2 hX2 hB2 hs2
  have hPK : PairOk m.pair := ⟨hC.out.hid.1, hC.out.bnd.1⟩
  have hPA := Lib.hid (pairAt_of hX3.out hC.out)
  have hifP : (Tryd.prog.info? 29).map (·.size) = some (pairA m.pair).size := by rw [pairA_size hPK]; kernel_rfl
  have k35 : w3.cell? ⟨w.heap.size, 35, none⟩ = some (.int .i64 m.pair.id) := cell_of hX3.out hC.out.pid
  obtain ⟨p1, p2⟩ := isId_true.1 hid
  replace hPK := Lib.hid hPK
  go_wp2_with fail
  refine (isID_any _ _).mono ?_
  rintro e w' ⟨rfl, rfl⟩
  rw [hid]
  go_wp2_with fail
  refine (need_same _ _ _ _).mono ?_
  rintro e w3 ⟨rfl, rfl⟩
  go_wp2_with (refine wpList_loadM _ rfl _ _ rfl w.heap.size 35 rfl (pairA m.pair) hPA.out _ Tryd.underlying29 rfl hifP ?_)
  refine (putPair_any (w.heap.size + 1) A3 34 c3 P m.pair _ hPK.out (by omega) (by omega) hO3.out hl3 (by omega) (by omega)).mono ?_
  rintro e w4 ⟨A4, c4, rfl, hO4, hB34, hT4⟩
  have hX4 := hT4 _ cs 36 _ hX3.out (by decide)
  have hB4 := Lib.hid ((hB3.out.trans (hB34.mono (by omega))))
  have hs4 : w.heap.size < w4.heap.size := heap_lt hX4
  have hl4 : (P ++ pairL m.pair).length = 99 := by rw [List.length_append, hl3, pairL_len hPK.out]
  have hp65 := pairL_len hPK.out
  replace hX4 := Lib.hid hX4
  replace hO4 := Lib.hid hO4
  clear hT4 hB34 k0 k35 hPA hifP
  have hb1 := hC.out.bind_.1
  have hb2 := hC.out.share.1
  have hRq5 := Lib.hid ((hC.out.bind_).bs hX4.out)
  go_wp2_with (at_builtin; go_must (refine wpList_append_bs _ rfl _ _ 22 rfl (w.heap.size + 1) i0 Tryd.underlying22 hi0 hz0 hz1 hz2 A4 99 c4 (P ++ pairL m.pair) hl4 rfl hO4.out (some ⟨w.heap.size, 102, none⟩) 32 32 m.bind_ hb1 rfl hRq5.out ?q5a ?q5b ?_))
  case q5a => simp [hl3, hp65, hb1, hb1]
  case q5b => omega
  intro A5 c5 w5 hO5 hg hat
  have hX5 := grew_box hO4.out hg hX4.out (by decide)
  have hB5 := Lib.hid (below_grew hB4.out hO4.out (by omega) (by omega) hg)
  have hsq5 : w.heap.size < w5.heap.size := heap_lt hX5
  replace hX5 := Lib.hid hX5
  replace hO5 := Lib.hid hO5
  clear hg hat hRq5
  have hl5 : (P ++ (pairL m.pair ++ m.bind_)).length = 131 := by simp [hl3, hp65, hb1]
  have hRq6 := Lib.hid ((hC.out.share).bs hX5.out)
  go_wp2_with (at_builtin; go_must (refine wpList_append_bs _ rfl _ _ 22 rfl (w.heap.size + 1) i0 Tryd.underlying22 hi0 hz0 hz1 hz2 A5 131 c5 (P ++ (pairL m.pair ++ m.bind_)) hl5 rfl hO5.out (some ⟨w.heap.size, 134, none⟩) 32 32 m.share hb2 rfl hRq6.out ?q6a ?q6b ?_))
  case q6a => simp [hl3, hp65, hb1, hb2]
  case q6b => omega
  intro A6 c6 w6 hO6 hg hat
  have hX6 := grew_box hO5.out hg hX5.out (by decide)
  have hB6 := Lib.hid (below_grew hB5.out hO5.out (by omega) (by omega) hg)
  have hsq6 : w.heap.size < w6.heap.size := heap_lt hX6
  replace hX6 := Lib.hid hX6
  replace hO6 := Lib.hid hO6
  clear hg hat hRq6
  have hlen : (bodyM m).length = 163 := by rw [hr3.out]; simp [restM, hk, hl3, hb1, hb2, pairL_len hPK.out]
  go_wp2_with fail
  go_ret
  refine ⟨A6, c6, (congrArg (fun k => Ending.returned (Value.slice A6 k c6)) hlen).symm, ?_, hB6.out⟩
  have h := OwnB.lower (B := w.heap.size) hO6.out (Nat.le_succ _)
  rw [hr3.out]
  simpa [restM, hk, pairL, List.append_assoc] using h

set_option maxHeartbeats 8000000 in
theorem body_6 (cs : Array Value) (m : Msg) (LA : Option Addr) (lc : Nat) (TA : Option Addr) (tc : Nat) (w : World) (hM : MsgIn w cs m LA lc TA tc) (hk : m.kind = 6) (f0 : 0 ≤ m.from_) (f1 : m.from_ ≤ 255) (t0 : 0 ≤ m.to_) (t1 : m.to_ ≤ 255) : Calls Tryd.prog 52 #[.agg cs] w (Body w (bodyM m).length (bodyM m)) := by
  obtain ⟨i0, hi0, hz0, hz1, hz2⟩ := info_parts inf5
  have hX := heap_alloc_new w (.cells cs 36)
  have hB := boxed w (.cells cs 36)
  have hs : (w.alloc (.cells cs 36)).heap.size = w.heap.size + 1 := by simp
  have hC := hM.cells
  have hl := hC.session.1
  go_enter Tryd.func52, Tryd.ntmps52
  go_upto_region 1 with fail
  generalize w.alloc (.cells cs 36) = w1 at hX hB hs ⊢
  have k0 : w1.cell? ⟨w.heap.size, 0, none⟩ = some (.int .i64 6) := by rw [← hk]; exact cell_of hX hC.kind
  have k33 : w1.cell? ⟨w.heap.size, 33, none⟩ = some (.int .i64 m.from_) := cell_of hX hC.from_
  have k34 : w1.cell? ⟨w.heap.size, 34, none⟩ = some (.int .i64 m.to_) := cell_of hX hC.to_
  have hS := Lib.hid (hC.session.bs hX)
  replace hX := Lib.hid hX
  replace hB := Lib.hid hB
  replace hC := Lib.hid hC
  replace hM := Lib.hid hM
  go_wp2_with fail
  refine (need_same _ _ _ _).mono ?_
  rintro e w' ⟨rfl, rfl⟩
  go_wp2_with fail
  refine (need_same _ _ _ _).mono ?_
  rintro e w' ⟨rfl, rfl⟩
  go_wp2_with fail
  refine (need_same _ _ _ _).mono ?_
  rintro e w' ⟨rfl, rfl⟩
  go_wp2_with (at_builtin; go_must (refine wpList_append_bs _ rfl _ _ 22 rfl (w.heap.size + 1) i0 Tryd.underlying22 hi0 hz0 hz1 hz2 none 0 0 [] rfl rfl (OwnB.nil _ _) (some ⟨w.heap.size, 1, none⟩) 32 32 m.session hl rfl hS.out ?q1a ?q1b ?_))
  case q1a => simp; omega
  case q1b => omega
  intro A2 c2 w2 hO2 hg2 hat2
  have hX2 := grew_box (OwnB.nil w' (w.heap.size + 1)) hg2 hX.out (by decide)
  have hB2 := Lib.hid (below_grew hB.out (OwnB.nil w' (w.heap.size + 1)) (by omega) (by omega) hg2)
  have k33 : w2.cell? ⟨w.heap.size, 33, none⟩ = some (.int .i64 m.from_) := cell_of hX2 hC.out.from_
  have k34 : w2.cell? ⟨w.heap.size, 34, none⟩ = some (.int .i64 m.to_) := cell_of hX2 hC.out.to_
  replace hX2 := Lib.hid hX2
  have hs2 : w.heap.size < w2.heap.size := heap_lt hX2.out
  have e1 := nb_u8 f0
  have e2 := nb_u8 t0
  have e3 : m.from_ % 256 = m.from_ := by omega
  have e4 : m.to_ % 256 = m.to_ := by omega
  rw [e3] at e1
  rw [e4] at e2
  have hb2 := Bs.two w2 (u8 m.from_) (u8 m.to_) 5
  rw [e1, e2] at hb2
  replace hb2 := Lib.hid hb2
  replace hO2 := Lib.hid hO2
  replace e1 := Lib.hid e1
  replace e2 := Lib.hid e2
  clear hg2 hat2 hX hB hS k0
  go_wp2_with (at_builtin; go_must (refine wpList_append_bs _ rfl _ _ 22 rfl (w.heap.size + 1) i0 Tryd.underlying22 hi0 hz0 hz1 hz2 A2 32 c2 m.session hl rfl (hO2.out.on (boxed _ _)) (some ⟨w2.heap.size, 0, none⟩) 2 2 [u8 m.from_, u8 m.to_] rfl rfl hb2.out ?q2a ?q2b ?_))
  case q2a => simp; omega
  case q2b => simp; omega
  intro A3 c3 w3 hO3 hg3 hat3
  have hX3 := grew_box (hO2.out.on (boxed _ _)) hg3 (heap_on (boxed _ _) hX2.out) (by decide)
  have hB3 := Lib.hid (below_grew (later' hB2.out (boxed _ _)) (hO2.out.on (boxed _ _)) (by omega) (by simp; omega) hg3)
  have k0 : w3.cell? ⟨w.heap.size, 0, none⟩ = some (.int .i64 6) := by rw [← hk]; exact cell_of hX3 hC.out.kind
  replace hX3 := Lib.hid hX3
  replace hO3 := Lib.hid hO3
  have hs3 : w.heap.size < w3.heap.size := heap_lt hX3.out
  have hl3 : (m.session ++ [u8 m.from_, u8 m.to_]).length = 34 := by simp [hl]
  have hr3 : Hid (bodyM m = m.session ++ [u8 m.from_, u8 m.to_] ++ restM m) := Lib.hid rfl
  generalize m.session ++ [u8 m.from_, u8 m.to_] = P at hO3 hl3 hr3 ⊢
  clear hg3 hat3 hb2 hO2 hX2 hB2 hs2
  have hb1 := hC.out.sig.1
  have hp65 := True.intro
  have hRq5 := Lib.hid ((hC.out.sig).bs hX3.out)
  go_wp2_with (at_builtin; go_must (refine wpList_append_bs _ rfl _ _ 22 rfl (w.heap.size + 1) i0 Tryd.underlying22 hi0 hz0 hz1 hz2 A3 34 c3 P hl3 rfl hO3.out (some ⟨w.heap.size, 166, none⟩) 64 64 m.sig hb1 rfl hRq5.out ?q5a ?q5b ?_))
  case q5a => simp [hl3, hp65, hb1, hb1]
  case q5b => omega
  intro A5 c5 w5 hO5 hg hat
  have hX5 := grew_box hO3.out hg hX3.out (by decide)
  have hB5 := Lib.hid (below_grew hB3.out hO3.out (by omega) (by omega) hg)
  have hsq5 : w.heap.size < w5.heap.size := heap_lt hX5
  replace hX5 := Lib.hid hX5
  replace hO5 := Lib.hid hO5
  clear hg hat hRq5
  have hlen : (bodyM m).length = 98 := by rw [hr3.out]; simp [restM, hk, hl3, hb1]
  go_wp2_with fail
  go_ret
  refine ⟨A5, c5, (congrArg (fun k => Ending.returned (Value.slice A5 k c5)) hlen).symm, ?_, hB5.out⟩
  have h := OwnB.lower (B := w.heap.size) hO5.out (Nat.le_succ _)
  rw [hr3.out]
  simpa [restM, hk, pairL, List.append_assoc] using h

end Go.Proofs.YtmnmmabhmedioaaDoor
