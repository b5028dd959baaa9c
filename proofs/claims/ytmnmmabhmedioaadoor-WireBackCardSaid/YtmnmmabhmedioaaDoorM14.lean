/- Wire: the reference's Used: a message with what its kind uses alone. (Printed by gen_used.py.) -/
import Derived.Test.YtmnmmabhmedioaaDoorM10
import Derived.Test.YtmnmmabhmedioaaDoorM12
import Derived.Test.YtmnmmabhmedioaaDoorM13
namespace Go.Proofs.YtmnmmabhmedioaaDoor
open Go.RowKit
set_option linter.unusedVariables false
set_option linter.unusedSimpArgs false
set_option maxRecDepth 100000

theorem put_fold (o : Nat) (l : List Value) : ∀ (k : Nat) (cs : Array Value), List.foldl (fun cs (x : Value × Nat) => cs.setIfInBounds (o + x.snd) x.fst) cs (l.zipIdx k) = setRange cs (o + k) l := by
  induction l with
  | nil => intro k cs; rfl
  | cons v r ih =>
    intro k cs
    rw [List.zipIdx_cons, List.foldl_cons, ih (k + 1)]
    rfl
theorem put_foldA (o : Nat) (A : Array Value) (cs : Array Value) : Array.foldl (fun cs (x : Value × Nat) => cs.setIfInBounds (o + x.snd) x.fst) cs A.zipIdx 0 A.size = setRange cs o A.toList := by
  have h := put_fold o A.toList 0 cs
  rw [Nat.add_zero] at h
  rw [← h, show A.size = A.zipIdx.size by simp, ← Array.foldl_toList, Array.toList_zipIdx]
theorem results_cell1 {P : Program} {fn : Func} {p1 : Tmp} {t1 : TypeId} (h : fn.results = #[.cell p1 t1]) (tmps : Array Value) (w : World) (a1 : Addr) (v1 : Value)
    (hp1 : tmps.getD p1 undef = .pointer (some a1)) (h1 : (loadVar t1 a1).run P w = .ok v1 w) : (results fn tmps).run P w = .ok v1 w := by
  have hp1' : tmps[p1]?.getD undef = .pointer (some a1) := by simpa using hp1
  simp [results, h, hp1', asAddr, h1]
theorem RowAt.range {w : World} {b o : Nat} {A : Array Value} (h : RowAt w b o A) : w.rangeAt b o A.toList := fun j v hv => h j v (by simpa using hv)

/-- What a message's kind uses. -/
def baseM (m : Msg) : Msg := ⟨m.kind, m.session, m.from_, m.to_, Pair.zero, [], [], zeros 32, zeros 32, zeros 64, 0⟩
def usedM (m : Msg) : Msg :=
  if m.kind = 2 then { baseM m with pair := m.pair }
  else if m.kind = 3 then { baseM m with list := m.list, text := m.text }
  else if m.kind = 4 then { baseM m with pair := m.pair, bind_ := m.bind_, share := m.share }
  else if m.kind = 5 then { baseM m with code := m.code }
  else if m.kind = 6 then { baseM m with sig := m.sig }
  else baseM m
def UsedPost (w : World) (m : Msg) (e : Ending) (w' : World) : Prop := ∃ cs LB ld TB td, e = .returned (.agg cs) ∧ MsgIn w' cs (usedM m) LB ld TB td ∧ Below w.heap.size w w' ∧ (∀ a, LB = some a → w.heap.size ≤ a.block) ∧ (∀ a, TB = some a → w.heap.size ≤ a.block)


set_option maxHeartbeats 16000000 in
theorem used_1 (c1 : Array Value) (m : Msg) (LA : Option Addr) (lc : Nat) (TA : Option Addr) (tc : Nat) (w : World) (hM : MsgIn w c1 m LA lc TA tc) (hk : m.kind = 1) : Calls Tryd.prog 54 #[.agg c1] w fun e w' => UsedPost w m e w' := by
  have hu : usedM m = baseM m := by simp [usedM, hk]
  replace hu := Lib.hid hu
  replace hk := Lib.hid hk
  have hX : ((w.alloc (.cells c1 36)).alloc (.cells Tryd.zeroCells36 36)).heap[w.heap.size]? = some (.cells c1 36 (0, 0)) := by
    rw [heap_alloc?, if_neg (by simp)]; exact heap_alloc_new w _
  have hY : ((w.alloc (.cells c1 36)).alloc (.cells Tryd.zeroCells36 36)).heap[w.heap.size + 1]? = some (.cells Tryd.zeroCells36 36 (0, 0)) := by
    rw [heap_alloc?, if_pos (by simp)]
  have hB : Below w.heap.size w ((w.alloc (.cells c1 36)).alloc (.cells Tryd.zeroCells36 36)) := later (boxed _ _) (boxed _ _)
  have hs : ((w.alloc (.cells c1 36)).alloc (.cells Tryd.zeroCells36 36)).heap.size = w.heap.size + 2 := by simp
  have h1 := hM.cells
  have hkk := h1.kind
  have k0 : ((w.alloc (.cells c1 36)).alloc (.cells Tryd.zeroCells36 36)).cell? ⟨w.heap.size, 0, none⟩ = some (.int .i64 m.kind) := cell_of hX h1.kind
  have k33 := cell_of hX h1.from_
  have k34 := cell_of hX h1.to_
  have x1 := Lib.hid (rowAt_of hX h1.session)
  have i1 : (Tryd.prog.info? 26).map (·.size) = some (arrB m.session).size := by rw [show (arrB m.session).size = 32 from by simp [arrB, h1.session.1]]; kernel_rfl
  have hD0 : MsgC (((setRange (Tryd.zeroCells36.setIfInBounds 0 (.int .i64 m.kind)) 1 (arrB m.session).toList).setIfInBounds 33 (.int .i64 m.from_)).setIfInBounds 34 (.int .i64 m.to_)) (baseM m) (.slice none 0 0) (.slice none 0 0) :=
    (((zC_msg.set_kind m.kind).set_session m.session h1.session.1).set_from_ m.from_).set_to_ m.to_
  replace h1 := Lib.hid h1
  replace hX := Lib.hid hX
  replace hY := Lib.hid hY
  replace hB := Lib.hid hB
  go_enter Tryd.func54, Tryd.ntmps54
  go_upto_region 1 with fail
  generalize ((w.alloc (.cells c1 36)).alloc (.cells Tryd.zeroCells36 36)) = W at *
  go_step
  refine wpList_step (fun K hK => ?_); go_simp; refine hK _ _ ?_; clear hK
  refine wpList_step (fun K hK => ?_); go_simp; refine hK _ _ ?_; clear hK
  refine wpList_step (fun K hK => ?_); go_simp; refine hK _ _ ?_; clear hK
  apply wpList_loadG (hc := x1.out) (hu := Tryd.underlying26) (hi := i1); (case ho => exact rfl); (case hx => exact rfl); (case hd => rfl); (case hw => simp [Region.wanted, yielded])
  refine wpList_step (fun K hK => ?_); go_simp; refine hK _ _ ?_; clear hK
  refine wpList_step (fun K hK => ?_); go_simp; refine hK _ _ ?_; clear hK
  refine wpList_step (fun K hK => ?_); go_simp; refine hK _ _ ?_; clear hK
  refine wpList_step (fun K hK => ?_); go_simp; refine hK _ _ ?_; clear hK
  refine wpList_step (fun K hK => ?_); go_simp
  rw [put_foldA]
  have hsz : (arrB m.session).size = 32 := by simp [arrB, h1.out.session.1]
  simp only [hsz, setRange_size, Array.size_setIfInBounds, zC_size]
  go_simp
  refine hK _ _ ?_
  clear hK
  generalize (((setRange (Tryd.zeroCells36.setIfInBounds 0 (.int .i64 m.kind)) 1 (arrB m.session).toList).setIfInBounds 33 (.int .i64 m.from_)).setIfInBounds 34 (.int .i64 m.to_)) = D at hD0 ⊢
  have hif : (Tryd.prog.info? 36).map (·.size) = some D.size := by rw [hD0.size]; kernel_rfl
  have hzD : Tryd.zeroCells36.size = D.size := by rw [hD0.size]; exact zC_size
  have hone := hD0.one rfl rfl
  have hz := Lib.hid (heap_alloc_new W (.cells Tryd.zeroCells36 36))
  rw [hs] at hz
  have hrow : Hid ((W.alloc (.cells Tryd.zeroCells36 36)).setRow (w.heap.size + 2) D = W.alloc (.cells D 36)) := Lib.hid (by rw [← hs]; exact World.setRow_alloc_new _ _ _ _)
  have hX3 := Lib.hid (heap_on (boxed W (.cells D 36)) hX.out)
  have hY3 := Lib.hid (heap_on (boxed W (.cells D 36)) hY.out)
  have hO3 := Lib.hid (heap_alloc_new W (.cells D 36))
  rw [hs] at hO3
  have hB3 := Lib.hid (later' hB.out (boxed W (.cells D 36)))
  clear k33 k34 x1 i1 hsz hX hY hB
  go_upto_region 2 with (refine wpList_storeW _ rfl _ _ _ rfl (w.heap.size + 2) D rfl rfl _ _ hz.out hif hzD hone ?_)
  rw [hrow.out]
  clear hrow hz k0 hone hif hzD
  generalize W.alloc (.cells D 36) = W3 at hX3 hY3 hO3 hB3 ⊢
  have k0 : W3.cell? ⟨w.heap.size, 0, none⟩ = some (.int .i64 1) := by rw [← hk.out]; exact cell_of hX3.out hkk
  clear hs
  replace hD0 := Lib.hid hD0
  replace hkk := Lib.hid hkk
  obtain ⟨E, hE⟩ : ∃ E, W3.heap[w.heap.size + 2]? = some (.cells E 36 (0, 0)) ∧ MsgC E (usedM m) (.slice none 0 0) (.slice none 0 0) := ⟨_, hO3.out, by rw [hu.out]; exact hD0.out⟩
  have hif : (Tryd.prog.info? 36).map (·.size) = some E.size := by rw [hE.2.size]; kernel_rfl
  have hzD : Tryd.zeroCells36.size = E.size := by rw [hE.2.size]; exact zC_size
  have hone := hE.2.one rfl rfl
  have rE := Lib.hid (rowAt_all hE.1)
  have hKy := setRow_keep W3 (w.heap.size + 1) E
  have hYz := setRow_heap W3 (w.heap.size + 1) _ E _ _ hY3.out
  have hBz := below_keep hB3.out hKy (fun i e => by omega) hB3.out.size
  replace hE := Lib.hid hE
  go_wp2_with (first | (refine wpList_loadM _ rfl _ _ rfl (w.heap.size + 2) 0 rfl E rE.out _ Tryd.underlying36 rfl hif ?_) | (refine wpList_storeW _ rfl _ _ _ rfl (w.heap.size + 1) E rfl rfl _ _ hY3.out hif hzD hone ?_))
  have hL := run_loadVar_row (P := Tryd.prog) _ (w.heap.size + 1) 36 36 E (0, 0) _ hYz Tryd.underlying36 rfl hif
  have hul : (usedM m).list = [] ∧ (usedM m).text = [] := by rw [hu.out]; exact ⟨rfl, rfl⟩
  have hfin := hE.out.2
  refine bodyPost_ret (v := .agg E) (results_cell1 rfl _ _ ⟨w.heap.size + 1, 0, none⟩ (.agg E) rfl hL) rfl ⟨E, none, 0, none, 0, rfl, ⟨?_, ?_, ?_, ?_, ?_, ?_, ?_, ?_⟩, hBz, (fun a ha => by cases ha), (fun a ha => by cases ha)⟩
  · rw [hul.1, hul.2]; exact hfin
  · rw [hul.1]; exact Nat.le_refl _
  · rw [hul.2]; exact Nat.le_refl _
  · rw [hul.1]; exact PairsIn.nil _ _
  · rw [hul.2]; exact Bs.nil _ _
  · rw [hul.1]; exact fun i => pair0_ok
  · rw [hul.1]; exact Nat.zero_le _
  · rw [hul.2]; exact Nat.zero_le _


set_option maxHeartbeats 16000000 in
theorem used_2 (c1 : Array Value) (m : Msg) (LA : Option Addr) (lc : Nat) (TA : Option Addr) (tc : Nat) (w : World) (hM : MsgIn w c1 m LA lc TA tc) (hk : m.kind = 2) : Calls Tryd.prog 54 #[.agg c1] w fun e w' => UsedPost w m e w' := by
  have hu : usedM m = { baseM m with pair := m.pair } := by simp [usedM, hk]
  replace hu := Lib.hid hu
  replace hk := Lib.hid hk
  have hX : ((w.alloc (.cells c1 36)).alloc (.cells Tryd.zeroCells36 36)).heap[w.heap.size]? = some (.cells c1 36 (0, 0)) := by
    rw [heap_alloc?, if_neg (by simp)]; exact heap_alloc_new w _
  have hY : ((w.alloc (.cells c1 36)).alloc (.cells Tryd.zeroCells36 36)).heap[w.heap.size + 1]? = some (.cells Tryd.zeroCells36 36 (0, 0)) := by
    rw [heap_alloc?, if_pos (by simp)]
  have hB : Below w.heap.size w ((w.alloc (.cells c1 36)).alloc (.cells Tryd.zeroCells36 36)) := later (boxed _ _) (boxed _ _)
  have hs : ((w.alloc (.cells c1 36)).alloc (.cells Tryd.zeroCells36 36)).heap.size = w.heap.size + 2 := by simp
  have h1 := hM.cells
  have hkk := h1.kind
  have k0 : ((w.alloc (.cells c1 36)).alloc (.cells Tryd.zeroCells36 36)).cell? ⟨w.heap.size, 0, none⟩ = some (.int .i64 m.kind) := cell_of hX h1.kind
  have k33 := cell_of hX h1.from_
  have k34 := cell_of hX h1.to_
  have x1 := Lib.hid (rowAt_of hX h1.session)
  have i1 : (Tryd.prog.info? 26).map (·.size) = some (arrB m.session).size := by rw [show (arrB m.session).size = 32 from by simp [arrB, h1.session.1]]; kernel_rfl
  have hD0 : MsgC (((setRange (Tryd.zeroCells36.setIfInBounds 0 (.int .i64 m.kind)) 1 (arrB m.session).toList).setIfInBounds 33 (.int .i64 m.from_)).setIfInBounds 34 (.int .i64 m.to_)) (baseM m) (.slice none 0 0) (.slice none 0 0) :=
    (((zC_msg.set_kind m.kind).set_session m.session h1.session.1).set_from_ m.from_).set_to_ m.to_
  replace h1 := Lib.hid h1
  replace hX := Lib.hid hX
  replace hY := Lib.hid hY
  replace hB := Lib.hid hB
  go_enter Tryd.func54, Tryd.ntmps54
  go_upto_region 1 with fail
  generalize ((w.alloc (.cells c1 36)).alloc (.cells Tryd.zeroCells36 36)) = W at *
  go_step
  refine wpList_step (fun K hK => ?_); go_simp; refine hK _ _ ?_; clear hK
  refine wpList_step (fun K hK => ?_); go_simp; refine hK _ _ ?_; clear hK
  refine wpList_step (fun K hK => ?_); go_simp; refine hK _ _ ?_; clear hK
  apply wpList_loadG (hc := x1.out) (hu := Tryd.underlying26) (hi := i1); (case ho => exact rfl); (case hx => exact rfl); (case hd => rfl); (case hw => simp [Region.wanted, yielded])
  refine wpList_step (fun K hK => ?_); go_simp; refine hK _ _ ?_; clear hK
  refine wpList_step (fun K hK => ?_); go_simp; refine hK _ _ ?_; clear hK
  refine wpList_step (fun K hK => ?_); go_simp; refine hK _ _ ?_; clear hK
  refine wpList_step (fun K hK => ?_); go_simp; refine hK _ _ ?_; clear hK
  refine wpList_step (fun K hK => ?_); go_simp
  rw [put_foldA]
  have hsz : (arrB m.session).size = 32 := by simp [arrB, h1.out.session.1]
  simp only [hsz, setRange_size, Array.size_setIfInBounds, zC_size]
  go_simp
  refine hK _ _ ?_
  clear hK
  generalize (((setRange (Tryd.zeroCells36.setIfInBounds 0 (.int .i64 m.kind)) 1 (arrB m.session).toList).setIfInBounds 33 (.int .i64 m.from_)).setIfInBounds 34 (.int .i64 m.to_)) = D at hD0 ⊢
  have hif : (Tryd.prog.info? 36).map (·.size) = some D.size := by rw [hD0.size]; kernel_rfl
  have hzD : Tryd.zeroCells36.size = D.size := by rw [hD0.size]; exact zC_size
  have hone := hD0.one rfl rfl
  have hz := Lib.hid (heap_alloc_new W (.cells Tryd.zeroCells36 36))
  rw [hs] at hz
  have hrow : Hid ((W.alloc (.cells Tryd.zeroCells36 36)).setRow (w.heap.size + 2) D = W.alloc (.cells D 36)) := Lib.hid (by rw [← hs]; exact World.setRow_alloc_new _ _ _ _)
  have hX3 := Lib.hid (heap_on (boxed W (.cells D 36)) hX.out)
  have hY3 := Lib.hid (heap_on (boxed W (.cells D 36)) hY.out)
  have hO3 := Lib.hid (heap_alloc_new W (.cells D 36))
  rw [hs] at hO3
  have hB3 := Lib.hid (later' hB.out (boxed W (.cells D 36)))
  clear k33 k34 x1 i1 hsz hX hY hB
  go_upto_region 2 with (refine wpList_storeW _ rfl _ _ _ rfl (w.heap.size + 2) D rfl rfl _ _ hz.out hif hzD hone ?_)
  rw [hrow.out]
  clear hrow hz k0 hone hif hzD
  generalize W.alloc (.cells D 36) = W3 at hX3 hY3 hO3 hB3 ⊢
  have k0 : W3.cell? ⟨w.heap.size, 0, none⟩ = some (.int .i64 2) := by rw [← hk.out]; exact cell_of hX3.out hkk
  clear hs
  replace hD0 := Lib.hid hD0
  replace hkk := Lib.hid hkk
  have r35 := Lib.hid (pairAt_of hX3.out h1.out)
  have a35 : (Tryd.prog.info? 29).map (·.size) = some (pairA m.pair).size := by rw [(pairA_size ⟨h1.out.hid.1, h1.out.bnd.1⟩)]; kernel_rfl
  have n35 : (pairA m.pair).size = 65 := (pairA_size ⟨h1.out.hid.1, h1.out.bnd.1⟩)
  have u35 : (pairA m.pair).all (·.oneCell') = true := pairA_one _
  have t35 := there_of hO3.out 35 (pairA m.pair).size (Nat.le_trans (m := 231) (by rw [n35]; decide) (Nat.le_of_eq hD0.out.size.symm))
  have hD1 := Lib.hid (hD0.out.set_pair m.pair ⟨h1.out.hid.1, h1.out.bnd.1⟩)
  have hO4 := Lib.hid (setCells_heap W3 (w.heap.size + 2) 35 (pairA m.pair).toList hO3.out)
  have hKk := setCells_keep W3 (w.heap.size + 2) 35 (pairA m.pair).toList
  have hX4 := Lib.hid (hKk.heap (show ¬ w.heap.size = w.heap.size + 2 by omega) hX3.out)
  have hY4 := Lib.hid (hKk.heap (show ¬ w.heap.size + 1 = w.heap.size + 2 by omega) hY3.out)
  have hB4 := Lib.hid (below_keep hB3.out hKk (fun i e => by omega) hB3.out.size)
  clear hKk
  go_upto_region 16 with (first | (refine wpList_loadM _ rfl _ _ rfl w.heap.size 35 rfl (pairA m.pair) r35.out _ Tryd.underlying29 rfl a35 ?_) | (refine wpList_store_mid rfl _ _ _ rfl (w.heap.size + 2) 35 (pairA m.pair) rfl rfl t35 a35 u35 ?_))
  clear t35 u35 a35 n35 r35
  generalize W3.setCells (w.heap.size + 2) 35 (pairA m.pair).toList = W4 at hO4 hX4 hY4 hB4 ⊢
  obtain ⟨E, hE⟩ : ∃ E, W4.heap[w.heap.size + 2]? = some (.cells E 36 (0, 0)) ∧ MsgC E (usedM m) (.slice none 0 0) (.slice none 0 0) := ⟨_, hO4.out, by rw [hu.out]; exact hD1.out⟩
  have hif : (Tryd.prog.info? 36).map (·.size) = some E.size := by rw [hE.2.size]; kernel_rfl
  have hzD : Tryd.zeroCells36.size = E.size := by rw [hE.2.size]; exact zC_size
  have hone := hE.2.one rfl rfl
  have rE := Lib.hid (rowAt_all hE.1)
  have hKy := setRow_keep W4 (w.heap.size + 1) E
  have hYz := setRow_heap W4 (w.heap.size + 1) _ E _ _ hY4.out
  have hBz := below_keep hB4.out hKy (fun i e => by omega) hB4.out.size
  replace hE := Lib.hid hE
  go_wp2_with (first | (refine wpList_loadM _ rfl _ _ rfl (w.heap.size + 2) 0 rfl E rE.out _ Tryd.underlying36 rfl hif ?_) | (refine wpList_storeW _ rfl _ _ _ rfl (w.heap.size + 1) E rfl rfl _ _ hY4.out hif hzD hone ?_))
  have hL := run_loadVar_row (P := Tryd.prog) _ (w.heap.size + 1) 36 36 E (0, 0) _ hYz Tryd.underlying36 rfl hif
  have hul : (usedM m).list = [] ∧ (usedM m).text = [] := by rw [hu.out]; exact ⟨rfl, rfl⟩
  have hfin := hE.out.2
  refine bodyPost_ret (v := .agg E) (results_cell1 rfl _ _ ⟨w.heap.size + 1, 0, none⟩ (.agg E) rfl hL) rfl ⟨E, none, 0, none, 0, rfl, ⟨?_, ?_, ?_, ?_, ?_, ?_, ?_, ?_⟩, hBz, (fun a ha => by cases ha), (fun a ha => by cases ha)⟩
  · rw [hul.1, hul.2]; exact hfin
  · rw [hul.1]; exact Nat.le_refl _
  · rw [hul.2]; exact Nat.le_refl _
  · rw [hul.1]; exact PairsIn.nil _ _
  · rw [hul.2]; exact Bs.nil _ _
  · rw [hul.1]; exact fun i => pair0_ok
  · rw [hul.1]; exact Nat.zero_le _
  · rw [hul.2]; exact Nat.zero_le _


set_option maxHeartbeats 16000000 in
theorem used_4 (c1 : Array Value) (m : Msg) (LA : Option Addr) (lc : Nat) (TA : Option Addr) (tc : Nat) (w : World) (hM : MsgIn w c1 m LA lc TA tc) (hk : m.kind = 4) : Calls Tryd.prog 54 #[.agg c1] w fun e w' => UsedPost w m e w' := by
  have hu : usedM m = { baseM m with pair := m.pair, bind_ := m.bind_, share := m.share } := by simp [usedM, hk]
  replace hu := Lib.hid hu
  replace hk := Lib.hid hk
  have hX : ((w.alloc (.cells c1 36)).alloc (.cells Tryd.zeroCells36 36)).heap[w.heap.size]? = some (.cells c1 36 (0, 0)) := by
    rw [heap_alloc?, if_neg (by simp)]; exact heap_alloc_new w _
  have hY : ((w.alloc (.cells c1 36)).alloc (.cells Tryd.zeroCells36 36)).heap[w.heap.size + 1]? = some (.cells Tryd.zeroCells36 36 (0, 0)) := by
    rw [heap_alloc?, if_pos (by simp)]
  have hB : Below w.heap.size w ((w.alloc (.cells c1 36)).alloc (.cells Tryd.zeroCells36 36)) := later (boxed _ _) (boxed _ _)
  have hs : ((w.alloc (.cells c1 36)).alloc (.cells Tryd.zeroCells36 36)).heap.size = w.heap.size + 2 := by simp
  have h1 := hM.cells
  have hkk := h1.kind
  have k0 : ((w.alloc (.cells c1 36)).alloc (.cells Tryd.zeroCells36 36)).cell? ⟨w.heap.size, 0, none⟩ = some (.int .i64 m.kind) := cell_of hX h1.kind
  have k33 := cell_of hX h1.from_
  have k34 := cell_of hX h1.to_
  have x1 := Lib.hid (rowAt_of hX h1.session)
  have i1 : (Tryd.prog.info? 26).map (·.size) = some (arrB m.session).size := by rw [show (arrB m.session).size = 32 from by simp [arrB, h1.session.1]]; kernel_rfl
  have hD0 : MsgC (((setRange (Tryd.zeroCells36.setIfInBounds 0 (.int .i64 m.kind)) 1 (arrB m.session).toList).setIfInBounds 33 (.int .i64 m.from_)).setIfInBounds 34 (.int .i64 m.to_)) (baseM m) (.slice none 0 0) (.slice none 0 0) :=
    (((zC_msg.set_kind m.kind).set_session m.session h1.session.1).set_from_ m.from_).set_to_ m.to_
  replace h1 := Lib.hid h1
  replace hX := Lib.hid hX
  replace hY := Lib.hid hY
  replace hB := Lib.hid hB
  go_enter Tryd.func54, Tryd.ntmps54
  go_upto_region 1 with fail
  generalize ((w.alloc (.cells c1 36)).alloc (.cells Tryd.zeroCells36 36)) = W at *
  go_step
  refine wpList_step (fun K hK => ?_); go_simp; refine hK _ _ ?_; clear hK
  refine wpList_step (fun K hK => ?_); go_simp; refine hK _ _ ?_; clear hK
  refine wpList_step (fun K hK => ?_); go_simp; refine hK _ _ ?_; clear hK
  apply wpList_loadG (hc := x1.out) (hu := Tryd.underlying26) (hi := i1); (case ho => exact rfl); (case hx => exact rfl); (case hd => rfl); (case hw => simp [Region.wanted, yielded])
  refine wpList_step (fun K hK => ?_); go_simp; refine hK _ _ ?_; clear hK
  refine wpList_step (fun K hK => ?_); go_simp; refine hK _ _ ?_; clear hK
  refine wpList_step (fun K hK => ?_); go_simp; refine hK _ _ ?_; clear hK
  refine wpList_step (fun K hK => ?_); go_simp; refine hK _ _ ?_; clear hK
  refine wpList_step (fun K hK => ?_); go_simp
  rw [put_foldA]
  have hsz : (arrB m.session).size = 32 := by simp [arrB, h1.out.session.1]
  simp only [hsz, setRange_size, Array.size_setIfInBounds, zC_size]
  go_simp
  refine hK _ _ ?_
  clear hK
  generalize (((setRange (Tryd.zeroCells36.setIfInBounds 0 (.int .i64 m.kind)) 1 (arrB m.session).toList).setIfInBounds 33 (.int .i64 m.from_)).setIfInBounds 34 (.int .i64 m.to_)) = D at hD0 ⊢
  have hif : (Tryd.prog.info? 36).map (·.size) = some D.size := by rw [hD0.size]; kernel_rfl
  have hzD : Tryd.zeroCells36.size = D.size := by rw [hD0.size]; exact zC_size
  have hone := hD0.one rfl rfl
  have hz := Lib.hid (heap_alloc_new W (.cells Tryd.zeroCells36 36))
  rw [hs] at hz
  have hrow : Hid ((W.alloc (.cells Tryd.zeroCells36 36)).setRow (w.heap.size + 2) D = W.alloc (.cells D 36)) := Lib.hid (by rw [← hs]; exact World.setRow_alloc_new _ _ _ _)
  have hX3 := Lib.hid (heap_on (boxed W (.cells D 36)) hX.out)
  have hY3 := Lib.hid (heap_on (boxed W (.cells D 36)) hY.out)
  have hO3 := Lib.hid (heap_alloc_new W (.cells D 36))
  rw [hs] at hO3
  have hB3 := Lib.hid (later' hB.out (boxed W (.cells D 36)))
  clear k33 k34 x1 i1 hsz hX hY hB
  go_upto_region 2 with (refine wpList_storeW _ rfl _ _ _ rfl (w.heap.size + 2) D rfl rfl _ _ hz.out hif hzD hone ?_)
  rw [hrow.out]
  clear hrow hz k0 hone hif hzD
  generalize W.alloc (.cells D 36) = W3 at hX3 hY3 hO3 hB3 ⊢
  have k0 : W3.cell? ⟨w.heap.size, 0, none⟩ = some (.int .i64 4) := by rw [← hk.out]; exact cell_of hX3.out hkk
  clear hs
  replace hD0 := Lib.hid hD0
  replace hkk := Lib.hid hkk
  have r35 := Lib.hid (pairAt_of hX3.out h1.out)
  have a35 : (Tryd.prog.info? 29).map (·.size) = some (pairA m.pair).size := by rw [(pairA_size ⟨h1.out.hid.1, h1.out.bnd.1⟩)]; kernel_rfl
  have n35 : (pairA m.pair).size = 65 := (pairA_size ⟨h1.out.hid.1, h1.out.bnd.1⟩)
  have u35 : (pairA m.pair).all (·.oneCell') = true := pairA_one _
  have t35 := there_of hO3.out 35 (pairA m.pair).size (Nat.le_trans (m := 231) (by rw [n35]; decide) (Nat.le_of_eq hD0.out.size.symm))
  have hD1 := Lib.hid (hD0.out.set_pair m.pair ⟨h1.out.hid.1, h1.out.bnd.1⟩)
  have hO4 := Lib.hid (setCells_heap W3 (w.heap.size + 2) 35 (pairA m.pair).toList hO3.out)
  have hKk := setCells_keep W3 (w.heap.size + 2) 35 (pairA m.pair).toList
  have hX4 := Lib.hid (hKk.heap (show ¬ w.heap.size = w.heap.size + 2 by omega) hX3.out)
  have hY4 := Lib.hid (hKk.heap (show ¬ w.heap.size + 1 = w.heap.size + 2 by omega) hY3.out)
  have hB4 := Lib.hid (below_keep hB3.out hKk (fun i e => by omega) hB3.out.size)
  clear hKk
  go_upto_region 10 with (first | (refine wpList_loadM _ rfl _ _ rfl w.heap.size 35 rfl (pairA m.pair) r35.out _ Tryd.underlying29 rfl a35 ?_) | (refine wpList_store_mid rfl _ _ _ rfl (w.heap.size + 2) 35 (pairA m.pair) rfl rfl t35 a35 u35 ?_))
  clear t35 u35 a35 n35 r35
  generalize W3.setCells (w.heap.size + 2) 35 (pairA m.pair).toList = W4 at hO4 hX4 hY4 hB4 ⊢
  have r102 := Lib.hid (rowAt_of hX4.out h1.out.bind_)
  have a102 : (Tryd.prog.info? 26).map (·.size) = some (arrB m.bind_).size := by rw [(show (arrB m.bind_).size = 32 from by simp [arrB, h1.out.bind_.1])]; kernel_rfl
  have n102 : (arrB m.bind_).size = 32 := (show (arrB m.bind_).size = 32 from by simp [arrB, h1.out.bind_.1])
  have u102 : (arrB m.bind_).all (·.oneCell') = true := all_oneCell_toArray one_bytes
  have t102 := there_of hO4.out 102 (arrB m.bind_).size (Nat.le_trans (m := 231) (by rw [n102]; decide) (Nat.le_of_eq hD1.out.size.symm))
  have hD2 := Lib.hid (hD1.out.set_bind_ m.bind_ h1.out.bind_.1)
  have hO5 := Lib.hid (setCells_heap W4 (w.heap.size + 2) 102 (arrB m.bind_).toList hO4.out)
  have hKk := setCells_keep W4 (w.heap.size + 2) 102 (arrB m.bind_).toList
  have hX5 := Lib.hid (hKk.heap (show ¬ w.heap.size = w.heap.size + 2 by omega) hX4.out)
  have hY5 := Lib.hid (hKk.heap (show ¬ w.heap.size + 1 = w.heap.size + 2 by omega) hY4.out)
  have hB5 := Lib.hid (below_keep hB4.out hKk (fun i e => by omega) hB4.out.size)
  clear hKk
  go_upto_region 11 with (first | (refine wpList_loadM _ rfl _ _ rfl w.heap.size 102 rfl (arrB m.bind_) r102.out _ Tryd.underlying26 rfl a102 ?_) | (refine wpList_store_mid rfl _ _ _ rfl (w.heap.size + 2) 102 (arrB m.bind_) rfl rfl t102 a102 u102 ?_))
  clear t102 u102 a102 n102 r102
  generalize W4.setCells (w.heap.size + 2) 102 (arrB m.bind_).toList = W5 at hO5 hX5 hY5 hB5 ⊢
  have r134 := Lib.hid (rowAt_of hX5.out h1.out.share)
  have a134 : (Tryd.prog.info? 31).map (·.size) = some (arrB m.share).size := by rw [(show (arrB m.share).size = 32 from by simp [arrB, h1.out.share.1])]; kernel_rfl
  have n134 : (arrB m.share).size = 32 := (show (arrB m.share).size = 32 from by simp [arrB, h1.out.share.1])
  have u134 : (arrB m.share).all (·.oneCell') = true := all_oneCell_toArray one_bytes
  have t134 := there_of hO5.out 134 (arrB m.share).size (Nat.le_trans (m := 231) (by rw [n134]; decide) (Nat.le_of_eq hD2.out.size.symm))
  have hD3 := Lib.hid (hD2.out.set_share m.share h1.out.share.1)
  have hO6 := Lib.hid (setCells_heap W5 (w.heap.size + 2) 134 (arrB m.share).toList hO5.out)
  have hKk := setCells_keep W5 (w.heap.size + 2) 134 (arrB m.share).toList
  have hX6 := Lib.hid (hKk.heap (show ¬ w.heap.size = w.heap.size + 2 by omega) hX5.out)
  have hY6 := Lib.hid (hKk.heap (show ¬ w.heap.size + 1 = w.heap.size + 2 by omega) hY5.out)
  have hB6 := Lib.hid (below_keep hB5.out hKk (fun i e => by omega) hB5.out.size)
  clear hKk
  go_upto_region 16 with (first | (refine wpList_loadM _ rfl _ _ rfl w.heap.size 134 rfl (arrB m.share) r134.out _ Tryd.underlying31 rfl a134 ?_) | (refine wpList_store_mid rfl _ _ _ rfl (w.heap.size + 2) 134 (arrB m.share) rfl rfl t134 a134 u134 ?_))
  clear t134 u134 a134 n134 r134
  generalize W5.setCells (w.heap.size + 2) 134 (arrB m.share).toList = W6 at hO6 hX6 hY6 hB6 ⊢
  obtain ⟨E, hE⟩ : ∃ E, W6.heap[w.heap.size + 2]? = some (.cells E 36 (0, 0)) ∧ MsgC E (usedM m) (.slice none 0 0) (.slice none 0 0) := ⟨_, hO6.out, by rw [hu.out]; exact hD3.out⟩
  have hif : (Tryd.prog.info? 36).map (·.size) = some E.size := by rw [hE.2.size]; kernel_rfl
  have hzD : Tryd.zeroCells36.size = E.size := by rw [hE.2.size]; exact zC_size
  have hone := hE.2.one rfl rfl
  have rE := Lib.hid (rowAt_all hE.1)
  have hKy := setRow_keep W6 (w.heap.size + 1) E
  have hYz := setRow_heap W6 (w.heap.size + 1) _ E _ _ hY6.out
  have hBz := below_keep hB6.out hKy (fun i e => by omega) hB6.out.size
  replace hE := Lib.hid hE
  go_wp2_with (first | (refine wpList_loadM _ rfl _ _ rfl (w.heap.size + 2) 0 rfl E rE.out _ Tryd.underlying36 rfl hif ?_) | (refine wpList_storeW _ rfl _ _ _ rfl (w.heap.size + 1) E rfl rfl _ _ hY6.out hif hzD hone ?_))
  have hL := run_loadVar_row (P := Tryd.prog) _ (w.heap.size + 1) 36 36 E (0, 0) _ hYz Tryd.underlying36 rfl hif
  have hul : (usedM m).list = [] ∧ (usedM m).text = [] := by rw [hu.out]; exact ⟨rfl, rfl⟩
  have hfin := hE.out.2
  refine bodyPost_ret (v := .agg E) (results_cell1 rfl _ _ ⟨w.heap.size + 1, 0, none⟩ (.agg E) rfl hL) rfl ⟨E, none, 0, none, 0, rfl, ⟨?_, ?_, ?_, ?_, ?_, ?_, ?_, ?_⟩, hBz, (fun a ha => by cases ha), (fun a ha => by cases ha)⟩
  · rw [hul.1, hul.2]; exact hfin
  · rw [hul.1]; exact Nat.le_refl _
  · rw [hul.2]; exact Nat.le_refl _
  · rw [hul.1]; exact PairsIn.nil _ _
  · rw [hul.2]; exact Bs.nil _ _
  · rw [hul.1]; exact fun i => pair0_ok
  · rw [hul.1]; exact Nat.zero_le _
  · rw [hul.2]; exact Nat.zero_le _


set_option maxHeartbeats 16000000 in
theorem used_6 (c1 : Array Value) (m : Msg) (LA : Option Addr) (lc : Nat) (TA : Option Addr) (tc : Nat) (w : World) (hM : MsgIn w c1 m LA lc TA tc) (hk : m.kind = 6) : Calls Tryd.prog 54 #[.agg c1] w fun e w' => UsedPost w m e w' := by
  have hu : usedM m = { baseM m with sig := m.sig } := by simp [usedM, hk]
  replace hu := Lib.hid hu
  replace hk := Lib.hid hk
  have hX : ((w.alloc (.cells c1 36)).alloc (.cells Tryd.zeroCells36 36)).heap[w.heap.size]? = some (.cells c1 36 (0, 0)) := by
    rw [heap_alloc?, if_neg (by simp)]; exact heap_alloc_new w _
  have hY : ((w.alloc (.cells c1 36)).alloc (.cells Tryd.zeroCells36 36)).heap[w.heap.size + 1]? = some (.cells Tryd.zeroCells36 36 (0, 0)) := by
    rw [heap_alloc?, if_pos (by simp)]
  have hB : Below w.heap.size w ((w.alloc (.cells c1 36)).alloc (.cells Tryd.zeroCells36 36)) := later (boxed _ _) (boxed _ _)
  have hs : ((w.alloc (.cells c1 36)).alloc (.cells Tryd.zeroCells36 36)).heap.size = w.heap.size + 2 := by simp
  have h1 := hM.cells
  have hkk := h1.kind
  have k0 : ((w.alloc (.cells c1 36)).alloc (.cells Tryd.zeroCells36 36)).cell? ⟨w.heap.size, 0, none⟩ = some (.int .i64 m.kind) := cell_of hX h1.kind
  have k33 := cell_of hX h1.from_
  have k34 := cell_of hX h1.to_
  have x1 := Lib.hid (rowAt_of hX h1.session)
  have i1 : (Tryd.prog.info? 26).map (·.size) = some (arrB m.session).size := by rw [show (arrB m.session).size = 32 from by simp [arrB, h1.session.1]]; kernel_rfl
  have hD0 : MsgC (((setRange (Tryd.zeroCells36.setIfInBounds 0 (.int .i64 m.kind)) 1 (arrB m.session).toList).setIfInBounds 33 (.int .i64 m.from_)).setIfInBounds 34 (.int .i64 m.to_)) (baseM m) (.slice none 0 0) (.slice none 0 0) :=
    (((zC_msg.set_kind m.kind).set_session m.session h1.session.1).set_from_ m.from_).set_to_ m.to_
  replace h1 := Lib.hid h1
  replace hX := Lib.hid hX
  replace hY := Lib.hid hY
  replace hB := Lib.hid hB
  go_enter Tryd.func54, Tryd.ntmps54
  go_upto_region 1 with fail
  generalize ((w.alloc (.cells c1 36)).alloc (.cells Tryd.zeroCells36 36)) = W at *
  go_step
  refine wpList_step (fun K hK => ?_); go_simp; refine hK _ _ ?_; clear hK
  refine wpList_step (fun K hK => ?_); go_simp; refine hK _ _ ?_; clear hK
  refine wpList_step (fun K hK => ?_); go_simp; refine hK _ _ ?_; clear hK
  apply wpList_loadG (hc := x1.out) (hu := Tryd.underlying26) (hi := i1); (case ho => exact rfl); (case hx => exact rfl); (case hd => rfl); (case hw => simp [Region.wanted, yielded])
  refine wpList_step (fun K hK => ?_); go_simp; refine hK _ _ ?_; clear hK
  refine wpList_step (fun K hK => ?_); go_simp; refine hK _ _ ?_; clear hK
  refine wpList_step (fun K hK => ?_); go_simp; refine hK _ _ ?_; clear hK
  refine wpList_step (fun K hK => ?_); go_simp; refine hK _ _ ?_; clear hK
  refine wpList_step (fun K hK => ?_); go_simp
  rw [put_foldA]
  have hsz : (arrB m.session).size = 32 := by simp [arrB, h1.out.session.1]
  simp only [hsz, setRange_size, Array.size_setIfInBounds, zC_size]
  go_simp
  refine hK _ _ ?_
  clear hK
  generalize (((setRange (Tryd.zeroCells36.setIfInBounds 0 (.int .i64 m.kind)) 1 (arrB m.session).toList).setIfInBounds 33 (.int .i64 m.from_)).setIfInBounds 34 (.int .i64 m.to_)) = D at hD0 ⊢
  have hif : (Tryd.prog.info? 36).map (·.size) = some D.size := by rw [hD0.size]; kernel_rfl
  have hzD : Tryd.zeroCells36.size = D.size := by rw [hD0.size]; exact zC_size
  have hone := hD0.one rfl rfl
  have hz := Lib.hid (heap_alloc_new W (.cells Tryd.zeroCells36 36))
  rw [hs] at hz
  have hrow : Hid ((W.alloc (.cells Tryd.zeroCells36 36)).setRow (w.heap.size + 2) D = W.alloc (.cells D 36)) := Lib.hid (by rw [← hs]; exact World.setRow_alloc_new _ _ _ _)
  have hX3 := Lib.hid (heap_on (boxed W (.cells D 36)) hX.out)
  have hY3 := Lib.hid (heap_on (boxed W (.cells D 36)) hY.out)
  have hO3 := Lib.hid (heap_alloc_new W (.cells D 36))
  rw [hs] at hO3
  have hB3 := Lib.hid (later' hB.out (boxed W (.cells D 36)))
  clear k33 k34 x1 i1 hsz hX hY hB
  go_upto_region 2 with (refine wpList_storeW _ rfl _ _ _ rfl (w.heap.size + 2) D rfl rfl _ _ hz.out hif hzD hone ?_)
  rw [hrow.out]
  clear hrow hz k0 hone hif hzD
  generalize W.alloc (.cells D 36) = W3 at hX3 hY3 hO3 hB3 ⊢
  have k0 : W3.cell? ⟨w.heap.size, 0, none⟩ = some (.int .i64 6) := by rw [← hk.out]; exact cell_of hX3.out hkk
  clear hs
  replace hD0 := Lib.hid hD0
  replace hkk := Lib.hid hkk
  have r166 := Lib.hid (rowAt_of hX3.out h1.out.sig)
  have a166 : (Tryd.prog.info? 33).map (·.size) = some (arrB m.sig).size := by rw [(show (arrB m.sig).size = 64 from by simp [arrB, h1.out.sig.1])]; kernel_rfl
  have n166 : (arrB m.sig).size = 64 := (show (arrB m.sig).size = 64 from by simp [arrB, h1.out.sig.1])
  have u166 : (arrB m.sig).all (·.oneCell') = true := all_oneCell_toArray one_bytes
  have t166 := there_of hO3.out 166 (arrB m.sig).size (Nat.le_trans (m := 231) (by rw [n166]; decide) (Nat.le_of_eq hD0.out.size.symm))
  have hD1 := Lib.hid (hD0.out.set_sig m.sig h1.out.sig.1)
  have hO4 := Lib.hid (setCells_heap W3 (w.heap.size + 2) 166 (arrB m.sig).toList hO3.out)
  have hKk := setCells_keep W3 (w.heap.size + 2) 166 (arrB m.sig).toList
  have hX4 := Lib.hid (hKk.heap (show ¬ w.heap.size = w.heap.size + 2 by omega) hX3.out)
  have hY4 := Lib.hid (hKk.heap (show ¬ w.heap.size + 1 = w.heap.size + 2 by omega) hY3.out)
  have hB4 := Lib.hid (below_keep hB3.out hKk (fun i e => by omega) hB3.out.size)
  clear hKk
  go_upto_region 16 with (first | (refine wpList_loadM _ rfl _ _ rfl w.heap.size 166 rfl (arrB m.sig) r166.out _ Tryd.underlying33 rfl a166 ?_) | (refine wpList_store_mid rfl _ _ _ rfl (w.heap.size + 2) 166 (arrB m.sig) rfl rfl t166 a166 u166 ?_))
  clear t166 u166 a166 n166 r166
  generalize W3.setCells (w.heap.size + 2) 166 (arrB m.sig).toList = W4 at hO4 hX4 hY4 hB4 ⊢
  obtain ⟨E, hE⟩ : ∃ E, W4.heap[w.heap.size + 2]? = some (.cells E 36 (0, 0)) ∧ MsgC E (usedM m) (.slice none 0 0) (.slice none 0 0) := ⟨_, hO4.out, by rw [hu.out]; exact hD1.out⟩
  have hif : (Tryd.prog.info? 36).map (·.size) = some E.size := by rw [hE.2.size]; kernel_rfl
  have hzD : Tryd.zeroCells36.size = E.size := by rw [hE.2.size]; exact zC_size
  have hone := hE.2.one rfl rfl
  have rE := Lib.hid (rowAt_all hE.1)
  have hKy := setRow_keep W4 (w.heap.size + 1) E
  have hYz := setRow_heap W4 (w.heap.size + 1) _ E _ _ hY4.out
  have hBz := below_keep hB4.out hKy (fun i e => by omega) hB4.out.size
  replace hE := Lib.hid hE
  go_wp2_with (first | (refine wpList_loadM _ rfl _ _ rfl (w.heap.size + 2) 0 rfl E rE.out _ Tryd.underlying36 rfl hif ?_) | (refine wpList_storeW _ rfl _ _ _ rfl (w.heap.size + 1) E rfl rfl _ _ hY4.out hif hzD hone ?_))
  have hL := run_loadVar_row (P := Tryd.prog) _ (w.heap.size + 1) 36 36 E (0, 0) _ hYz Tryd.underlying36 rfl hif
  have hul : (usedM m).list = [] ∧ (usedM m).text = [] := by rw [hu.out]; exact ⟨rfl, rfl⟩
  have hfin := hE.out.2
  refine bodyPost_ret (v := .agg E) (results_cell1 rfl _ _ ⟨w.heap.size + 1, 0, none⟩ (.agg E) rfl hL) rfl ⟨E, none, 0, none, 0, rfl, ⟨?_, ?_, ?_, ?_, ?_, ?_, ?_, ?_⟩, hBz, (fun a ha => by cases ha), (fun a ha => by cases ha)⟩
  · rw [hul.1, hul.2]; exact hfin
  · rw [hul.1]; exact Nat.le_refl _
  · rw [hul.2]; exact Nat.le_refl _
  · rw [hul.1]; exact PairsIn.nil _ _
  · rw [hul.2]; exact Bs.nil _ _
  · rw [hul.1]; exact fun i => pair0_ok
  · rw [hul.1]; exact Nat.zero_le _
  · rw [hul.2]; exact Nat.zero_le _

end Go.Proofs.YtmnmmabhmedioaaDoor
