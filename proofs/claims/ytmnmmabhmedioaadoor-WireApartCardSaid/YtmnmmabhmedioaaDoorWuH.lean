/- Wire: the reference's Used, kinds 3 and 5; of any message. (Printed by gen_used.py two.) -/
import Derived.Test.YtmnmmabhmedioaaDoorWuF
import Derived.Test.YtmnmmabhmedioaaDoorWuG
namespace Go.Proofs.YtmnmmabhmedioaaDoor
open Go.RowKit
set_option linter.unusedVariables false
set_option linter.unusedSimpArgs false
set_option maxRecDepth 100000


set_option maxHeartbeats 16000000 in
theorem used_5 (c1 : Array Value) (m : Msg) (LA : Option Addr) (lc : Nat) (TA : Option Addr) (tc : Nat) (w : World) (hM : MsgIn w c1 m LA lc TA tc) (hk : m.kind = 5) : Calls Tryd.prog 54 #[.agg c1] w fun e w' => UsedPost w m e w' := by
  have hu : usedM m = { baseM m with code := m.code } := by simp [usedM, hk]
  replace hu := Lib.hid hu
  replace hk := Lib.hid hk
  have hX : ((w.alloc (.cells c1 36)).alloc (.cells Tryd.zeroCells36 36)).heap[w.heap.size]? = some (.cells c1 36 (0, 0)) := by
    rw [heap_alloc?, if_neg (by simp)]; exact heap_alloc_new w _
  have hY : ((w.alloc (.cells c1 36)).alloc (.cells Tryd.zeroCells36 36)).heap[w.heap.size + 1]? = some (.cells Tryd.zeroCells36 36 (0, 0)) := by
    rw [heap_alloc?, if_pos (by simp)]
  have hB : Below w.heap.size w ((w.alloc (.cells c1 36)).alloc (.cells Tryd.zeroCells36 36)) := later (boxed _ _) (boxed _ _)
  have hs : ((w.alloc (.cells c1 36)).alloc (.cells Tryd.zeroCells36 36)).heap.size = w.heap.size + 2 := by simp
  have h1 := hM.cells
  have hkk := h1.kind
  have k0 : ((w.alloc (.cells c1 36)).alloc (.cells Tryd.zeroCells36 36)).cell? ⟨w.heap.size, 0, none⟩ = some (.int .i64 m.kind) := cell_of hX h1.kind
  have k33 := cell_of hX h1.from_
  have k34 := cell_of hX h1.to_
  have x1 := Lib.hid (rowAt_of hX h1.session)
  have i1 : (Tryd.prog.info? 26).map (·.size) = some (arrB m.session).size := by rw [show (arrB m.session).size = 32 from by simp [arrB, h1.session.1]]; kernel_rfl
  have hD0 : MsgC (((setRange (Tryd.zeroCells36.setIfInBounds 0 (.int .i64 m.kind)) 1 (arrB m.session).toList).setIfInBounds 33 (.int .i64 m.from_)).setIfInBounds 34 (.int .i64 m.to_)) (baseM m) (.slice none 0 0) (.slice none 0 0) :=
    (((zC_msg.set_kind m.kind).set_session m.session h1.session.1).set_from_ m.from_).set_to_ m.to_
  replace h1 := Lib.hid h1
  replace hX := Lib.hid hX
  replace hY := Lib.hid hY
  replace hB := Lib.hid hB
  go_enter Tryd.func54, Tryd.ntmps54
  go_upto_region 1 with fail
  generalize ((w.alloc (.cells c1 36)).alloc (.cells Tryd.zeroCells36 36)) = W at *
  go_step
  refine wpList_step (fun K hK => ?_); go_simp; refine hK _ _ ?_; clear hK
  refine wpList_step (fun K hK => ?_); go_simp; refine hK _ _ ?_; clear hK
  refine wpList_step (fun K hK => ?_); go_simp; refine hK _ _ ?_; clear hK
  apply wpList_loadG (hc := x1.out) (hu := Tryd.underlying26) (hi := i1); (case ho => exact rfl); (case hx => exact rfl); (case hd => rfl); (case hw => simp [Region.wanted, yielded])
  refine wpList_step (fun K hK => ?_); go_simp; refine hK _ _ ?_; clear hK
  refine wpList_step (fun K hK => ?_); go_simp; refine hK _ _ ?_; clear hK
  refine wpList_step (fun K hK => ?_); go_simp; refine hK _ _ ?_; clear hK
  refine wpList_step (fun K hK => ?_); go_simp; refine hK _ _ ?_; clear hK
  refine wpList_step (fun K hK => ?_); go_simp
  rw [put_foldA]
  have hsz : (arrB m.session).size = 32 := by simp [arrB, h1.out.session.1]
  simp only [hsz, setRange_size, Array.size_setIfInBounds, zC_size]
  go_simp
  refine hK _ _ ?_
  clear hK
  generalize (((setRange (Tryd.zeroCells36.setIfInBounds 0 (.int .i64 m.kind)) 1 (arrB m.session).toList).setIfInBounds 33 (.int .i64 m.from_)).setIfInBounds 34 (.int .i64 m.to_)) = D at hD0 ⊢
  have hif : (Tryd.prog.info? 36).map (·.size) = some D.size := by rw [hD0.size]; kernel_rfl
  have hzD : Tryd.zeroCells36.size = D.size := by rw [hD0.size]; exact zC_size
  have hone := hD0.one rfl rfl
  have hz := Lib.hid (heap_alloc_new W (.cells Tryd.zeroCells36 36))
  rw [hs] at hz
  have hrow : Hid ((W.alloc (.cells Tryd.zeroCells36 36)).setRow (w.heap.size + 2) D = W.alloc (.cells D 36)) := Lib.hid (by rw [← hs]; exact World.setRow_alloc_new _ _ _ _)
  have hX3 := Lib.hid (heap_on (boxed W (.cells D 36)) hX.out)
  have hY3 := Lib.hid (heap_on (boxed W (.cells D 36)) hY.out)
  have hO3 := Lib.hid (heap_alloc_new W (.cells D 36))
  rw [hs] at hO3
  have hB3 := Lib.hid (later' hB.out (boxed W (.cells D 36)))
  clear k33 k34 x1 i1 hsz hX hY hB
  go_upto_region 2 with (refine wpList_storeW _ rfl _ _ _ rfl (w.heap.size + 2) D rfl rfl _ _ hz.out hif hzD hone ?_)
  rw [hrow.out]
  clear hrow hz k0 hone hif hzD
  generalize W.alloc (.cells D 36) = W3 at hX3 hY3 hO3 hB3 ⊢
  have k0 : W3.cell? ⟨w.heap.size, 0, none⟩ = some (.int .i64 5) := by rw [← hk.out]; exact cell_of hX3.out hkk
  clear hs
  replace hD0 := Lib.hid hD0
  replace hkk := Lib.hid hkk
  have k230 : W3.cell? ⟨w.heap.size, 230, none⟩ = some (.int .i64 m.code) := cell_of hX3.out h1.out.code
  have o230 : W3.cell? ⟨w.heap.size + 2, 230, none⟩ = some (.int .i64 0) := cell_of hO3.out hD0.out.code
  have z230 : W3.frozen? ⟨w.heap.size + 2, 230, none⟩ = false := free_of hO3.out
  have hD1 := Lib.hid (hD0.out.set_code m.code)
  have hO4 := Lib.hid (heap_set (o := 230) hO3.out (.int .i64 m.code))
  have hKk : Keep (fun k => k = w.heap.size + 2) W3 (W3.setCell ⟨w.heap.size + 2, 230, none⟩ (.int .i64 m.code)) := Keep.set (fun k => k = w.heap.size + 2) _ _ _ rfl
  have hY4 := Lib.hid (hKk.heap (show ¬ w.heap.size + 1 = w.heap.size + 2 by omega) hY3.out)
  have hB4 := Lib.hid (below_keep hB3.out hKk (fun i e => by omega) hB3.out.size)
  clear hKk
  go_upto_region 16 with fail
  clear k230 o230 z230
  generalize W3.setCell ⟨w.heap.size + 2, 230, none⟩ (.int .i64 m.code) = W4 at hO4 hY4 hB4 ⊢
  obtain ⟨E, hE⟩ : ∃ E, W4.heap[w.heap.size + 2]? = some (.cells E 36 (0, 0)) ∧ MsgC E (usedM m) (.slice none 0 0) (.slice none 0 0) := ⟨_, hO4.out, by rw [hu.out]; exact hD1.out⟩
  have hif : (Tryd.prog.info? 36).map (·.size) = some E.size := by rw [hE.2.size]; kernel_rfl
  have hzD : Tryd.zeroCells36.size = E.size := by rw [hE.2.size]; exact zC_size
  have hone := hE.2.one rfl rfl
  have rE := Lib.hid (rowAt_all hE.1)
  have hKy := setRow_keep W4 (w.heap.size + 1) E
  have hYz := setRow_heap W4 (w.heap.size + 1) _ E _ _ hY4.out
  have hBz := below_keep hB4.out hKy (fun i e => by omega) hB4.out.size
  replace hE := Lib.hid hE
  go_wp2_with (first | (refine wpList_loadM _ rfl _ _ rfl (w.heap.size + 2) 0 rfl E rE.out _ Tryd.underlying36 rfl hif ?_) | (refine wpList_storeW _ rfl _ _ _ rfl (w.heap.size + 1) E rfl rfl _ _ hY4.out hif hzD hone ?_))
  have hL := run_loadVar_row (P := Tryd.prog) _ (w.heap.size + 1) 36 36 E (0, 0) _ hYz Tryd.underlying36 rfl hif
  have hul : (usedM m).list = [] ∧ (usedM m).text = [] := by rw [hu.out]; exact ⟨rfl, rfl⟩
  have hfin := hE.out.2
  refine bodyPost_ret (v := .agg E) (results_cell1 rfl _ _ ⟨w.heap.size + 1, 0, none⟩ (.agg E) rfl hL) rfl ⟨E, none, 0, none, 0, rfl, ⟨?_, ?_, ?_, ?_, ?_, ?_, ?_, ?_⟩, hBz, (fun a ha => by cases ha), (fun a ha => by cases ha)⟩
  · rw [hul.1, hul.2]; exact hfin
  · rw [hul.1]; exact Nat.le_refl _
  · rw [hul.2]; exact Nat.le_refl _
  · rw [hul.1]; exact PairsIn.nil _ _
  · rw [hul.2]; exact Bs.nil _ _
  · rw [hul.1]; exact fun i => pair0_ok
  · rw [hul.1]; exact Nat.zero_le _
  · rw [hul.2]; exact Nat.zero_le _

theorem hcapB {w : World} {base : Nat} {A : Option Addr} {c : Nat} {l : List UInt8} (h : OwnB w base A c l) : l.length ≤ c := by
  rcases h.form with ⟨_, _, h2⟩ | ⟨_, _, _, _, _, h2⟩
  · rw [h2]; exact Nat.zero_le _
  · exact h2


set_option maxHeartbeats 16000000 in
theorem used_3 (c1 : Array Value) (m : Msg) (LA : Option Addr) (lc : Nat) (TA : Option Addr) (tc : Nat) (w : World) (hM : MsgIn w c1 m LA lc TA tc) (hk : m.kind = 3) (hbd : m.kind = 3 → m.list.length ≤ 255 ∧ m.text.length ≤ 1048575) : Calls Tryd.prog 54 #[.agg c1] w fun e w' => UsedPost w m e w' := by
  have hu : usedM m = { baseM m with list := m.list, text := m.text } := by simp [usedM, hk]
  replace hu := Lib.hid hu
  replace hk := Lib.hid hk
  replace hbd := Lib.hid hbd
  have hX : ((w.alloc (.cells c1 36)).alloc (.cells Tryd.zeroCells36 36)).heap[w.heap.size]? = some (.cells c1 36 (0, 0)) := by
    rw [heap_alloc?, if_neg (by simp)]; exact heap_alloc_new w _
  have hY : ((w.alloc (.cells c1 36)).alloc (.cells Tryd.zeroCells36 36)).heap[w.heap.size + 1]? = some (.cells Tryd.zeroCells36 36 (0, 0)) := by
    rw [heap_alloc?, if_pos (by simp)]
  have hB : Below w.heap.size w ((w.alloc (.cells c1 36)).alloc (.cells Tryd.zeroCells36 36)) := later (boxed _ _) (boxed _ _)
  have hs : ((w.alloc (.cells c1 36)).alloc (.cells Tryd.zeroCells36 36)).heap.size = w.heap.size + 2 := by simp
  have h1 := hM.cells
  have hkk := h1.kind
  have k0 : ((w.alloc (.cells c1 36)).alloc (.cells Tryd.zeroCells36 36)).cell? ⟨w.heap.size, 0, none⟩ = some (.int .i64 m.kind) := cell_of hX h1.kind
  have k33 := cell_of hX h1.from_
  have k34 := cell_of hX h1.to_
  have x1 := Lib.hid (rowAt_of hX h1.session)
  have i1 : (Tryd.prog.info? 26).map (·.size) = some (arrB m.session).size := by rw [show (arrB m.session).size = 32 from by simp [arrB, h1.session.1]]; kernel_rfl
  have hD0 : MsgC (((setRange (Tryd.zeroCells36.setIfInBounds 0 (.int .i64 m.kind)) 1 (arrB m.session).toList).setIfInBounds 33 (.int .i64 m.from_)).setIfInBounds 34 (.int .i64 m.to_)) (baseM m) (.slice none 0 0) (.slice none 0 0) :=
    (((zC_msg.set_kind m.kind).set_session m.session h1.session.1).set_from_ m.from_).set_to_ m.to_
  replace h1 := Lib.hid h1
  replace hX := Lib.hid hX
  replace hY := Lib.hid hY
  replace hB := Lib.hid hB
  go_enter Tryd.func54, Tryd.ntmps54
  go_upto_region 1 with fail
  generalize ((w.alloc (.cells c1 36)).alloc (.cells Tryd.zeroCells36 36)) = W at *
  go_step
  refine wpList_step (fun K hK => ?_); go_simp; refine hK _ _ ?_; clear hK
  refine wpList_step (fun K hK => ?_); go_simp; refine hK _ _ ?_; clear hK
  refine wpList_step (fun K hK => ?_); go_simp; refine hK _ _ ?_; clear hK
  apply wpList_loadG (hc := x1.out) (hu := Tryd.underlying26) (hi := i1); (case ho => exact rfl); (case hx => exact rfl); (case hd => rfl); (case hw => simp [Region.wanted, yielded])
  refine wpList_step (fun K hK => ?_); go_simp; refine hK _ _ ?_; clear hK
  refine wpList_step (fun K hK => ?_); go_simp; refine hK _ _ ?_; clear hK
  refine wpList_step (fun K hK => ?_); go_simp; refine hK _ _ ?_; clear hK
  refine wpList_step (fun K hK => ?_); go_simp; refine hK _ _ ?_; clear hK
  refine wpList_step (fun K hK => ?_); go_simp
  rw [put_foldA]
  have hsz : (arrB m.session).size = 32 := by simp [arrB, h1.out.session.1]
  simp only [hsz, setRange_size, Array.size_setIfInBounds, zC_size]
  go_simp
  refine hK _ _ ?_
  clear hK
  generalize (((setRange (Tryd.zeroCells36.setIfInBounds 0 (.int .i64 m.kind)) 1 (arrB m.session).toList).setIfInBounds 33 (.int .i64 m.from_)).setIfInBounds 34 (.int .i64 m.to_)) = D at hD0 ⊢
  have hif : (Tryd.prog.info? 36).map (·.size) = some D.size := by rw [hD0.size]; kernel_rfl
  have hzD : Tryd.zeroCells36.size = D.size := by rw [hD0.size]; exact zC_size
  have hone := hD0.one rfl rfl
  have hz := Lib.hid (heap_alloc_new W (.cells Tryd.zeroCells36 36))
  rw [hs] at hz
  have hrow : Hid ((W.alloc (.cells Tryd.zeroCells36 36)).setRow (w.heap.size + 2) D = W.alloc (.cells D 36)) := Lib.hid (by rw [← hs]; exact World.setRow_alloc_new _ _ _ _)
  have hX3 := Lib.hid (heap_on (boxed W (.cells D 36)) hX.out)
  have hY3 := Lib.hid (heap_on (boxed W (.cells D 36)) hY.out)
  have hO3 := Lib.hid (heap_alloc_new W (.cells D 36))
  rw [hs] at hO3
  have hB3 := Lib.hid (later' hB.out (boxed W (.cells D 36)))
  clear k33 k34 x1 i1 hsz hX hY hB
  go_upto_region 2 with (refine wpList_storeW _ rfl _ _ _ rfl (w.heap.size + 2) D rfl rfl _ _ hz.out hif hzD hone ?_)
  rw [hrow.out]
  clear hrow hz k0 hone hif hzD
  generalize W.alloc (.cells D 36) = W3 at hX3 hY3 hO3 hB3 ⊢
  have k0 : W3.cell? ⟨w.heap.size, 0, none⟩ = some (.int .i64 3) := by rw [← hk.out]; exact cell_of hX3.out hkk
  clear hs
  replace hD0 := Lib.hid hD0
  replace hkk := Lib.hid hkk
  have hl := (hbd.out hk.out).1
  have ht := (hbd.out hk.out).2
  have hpk := Lib.hid (PairsOk.mem hM.pok)
  have hs3 : w.heap.size + 2 < W3.heap.size := heap_lt hO3.out
  have hLs := Lib.hid (hM.list.on (later' hB3.out (boxed W3 (.cells #[] 29)) (by omega)))
  have hTx := Lib.hid hM.text
  replace hM := Lib.hid hM
  have hE4 : Hid (OwnP (W3.alloc (.cells #[] 29)) (w.heap.size + 3) (some ⟨W3.heap.size, 0, none⟩) 0 []) := Lib.hid (OwnP.empty (heap_alloc_new W3 _) rfl (by omega))
  have k100 : (W3.alloc (.cells #[] 29)).cell? ⟨w.heap.size, 100, none⟩ = some (.slice LA m.list.length lc) := cell_on (boxed _ _) (cell_of hX3.out h1.out.list)
  go_wp2_with (at_builtin; go_must (refine wpList_append_ps _ rfl _ _ rfl (w.heap.size + 3) (some ⟨W3.heap.size, 0, none⟩) 0 0 [] rfl rfl hE4.out LA m.list.length lc m.list rfl rfl hLs.out hpk.out ?qa ?qb ?_))
  case qa => first | omega | (simp; omega)
  case qb => first | omega | (simp; omega)
  intro A4 c4 w4 hP4 hg4
  have hX4 := grewP_box hE4.out hg4 (heap_on (boxed _ _) hX3.out) (by decide)
  have hY4 := grewP_box hE4.out hg4 (heap_on (boxed _ _) hY3.out) (by decide)
  have hO4 := grewP_box hE4.out hg4 (heap_on (boxed _ _) hO3.out) (by decide)
  have hB4 := Lib.hid (below_grewP (later' hB3.out (boxed _ _) (by omega)) hE4.out (by omega) (by simp; omega) hg4)
  have hP4' : Hid (OwnP w4 (w.heap.size + 3) A4 c4 m.list) := Lib.hid (by simpa using hP4)
  replace hP4 := True.intro
  try rw [Nat.zero_add]
  have o100 : w4.cell? ⟨w.heap.size + 2, 100, none⟩ = some (.slice none 0 0) := cell_of hO4 hD0.out.list
  have z100 : w4.frozen? ⟨w.heap.size + 2, 100, none⟩ = false := free_of hO4
  have hD1 := Lib.hid (hD0.out.set_list m.list (.slice A4 m.list.length c4))
  have hO5 := Lib.hid (heap_set (o := 100) hO4 (.slice A4 m.list.length c4))
  have hKk : Keep (fun k => k = w.heap.size + 2) w4 (w4.setCell ⟨w.heap.size + 2, 100, none⟩ (.slice A4 m.list.length c4)) := Keep.set (fun k => k = w.heap.size + 2) _ _ _ rfl
  have hX5 := Lib.hid (hKk.heap (show ¬ w.heap.size = w.heap.size + 2 by omega) hX4)
  have hY5 := Lib.hid (hKk.heap (show ¬ w.heap.size + 1 = w.heap.size + 2 by omega) hY4)
  have hP5 := Lib.hid (hP4'.out.keep hKk (fun a ha => by have := (hP4'.out.ge a ha).1; omega))
  have hB5 := Lib.hid (below_keep hB4.out hKk (fun i e => by omega) hB4.out.size)
  clear hKk hE4 hg4 hLs k100 hX4 hY4 hX3 hY3 hO3 hB3 hs3
  replace hO4 := Lib.hid hO4
  go_upto_region 7 with fail
  clear o100 z100 hO4 hB4 hP4'
  generalize w4.setCell ⟨w.heap.size + 2, 100, none⟩ (.slice A4 m.list.length c4) = W5 at hO5 hX5 hY5 hP5 hB5 ⊢
  have hs5 : w.heap.size + 2 < W5.heap.size := heap_lt hO5.out
  obtain ⟨i0, hi0, hz0, hz1, hz2⟩ := info_parts inf5
  have hE6 : Hid (OwnB (W5.alloc (.cells #[] 5)) (w.heap.size + 3) (some ⟨W5.heap.size, 0, none⟩) 0 []) := Lib.hid ⟨rfl, .inr ⟨W5.heap.size, 0, #[], rfl, by omega, heap_alloc_new W5 _, Nat.le_refl _, Nat.zero_le _, rfl, rfl⟩⟩
  have hT6 := Lib.hid (hTx.out.on (later' hB5.out (boxed W5 (.cells #[] 5)) (by omega)))
  have k101 : (W5.alloc (.cells #[] 5)).cell? ⟨w.heap.size, 101, none⟩ = some (.slice TA m.text.length tc) := cell_on (boxed _ _) (cell_of hX5.out h1.out.text)
  go_wp2_with (at_builtin; go_must (refine wpList_append_bs _ rfl _ _ 22 rfl (w.heap.size + 3) i0 Tryd.underlying22 hi0 hz0 hz1 hz2 (some ⟨W5.heap.size, 0, none⟩) 0 0 [] rfl rfl hE6.out TA m.text.length tc m.text rfl rfl hT6.out ?qc ?qd ?_))
  case qc => first | omega | (simp; omega)
  case qd => first | omega | (simp; omega)
  intro A6 c6 w6 hO6 hg6 hat6
  have hX6 := grew_box hE6.out hg6 (heap_on (boxed _ _) hX5.out) (by decide)
  have hY6 := grew_box hE6.out hg6 (heap_on (boxed _ _) hY5.out) (by decide)
  have hQ6 := grew_box hE6.out hg6 (heap_on (boxed _ _) hO5.out) (by decide)
  have hB6 := Lib.hid (below_grew (later' hB5.out (boxed _ _) (by omega)) hE6.out (by omega) (by simp; omega) hg6)
  have hP6 : Hid (OwnP w6 (w.heap.size + 3) A4 c4 m.list) := Lib.hid ((hP5.out.on (boxed W5 (.cells #[] 5))).keep (keep_grew (D := fun k => k = W5.heap.size) hg6 (fun a ha => by cases ha; rfl)) (fun a ha => by have := (hP5.out.ge a ha).2; omega))
  have hO6' : Hid (OwnB w6 (w.heap.size + 3) A6 c6 m.text) := Lib.hid (by simpa using hO6)
  replace hO6 := True.intro
  try rw [Nat.zero_add]
  have o101 : w6.cell? ⟨w.heap.size + 2, 101, none⟩ = some (.slice none 0 0) := cell_of hQ6 hD1.out.text
  have z101 : w6.frozen? ⟨w.heap.size + 2, 101, none⟩ = false := free_of hQ6
  have hD2 := Lib.hid (hD1.out.set_text m.text (.slice A6 m.text.length c6))
  have hO7 := Lib.hid (heap_set (o := 101) hQ6 (.slice A6 m.text.length c6))
  have hKk : Keep (fun k => k = w.heap.size + 2) w6 (w6.setCell ⟨w.heap.size + 2, 101, none⟩ (.slice A6 m.text.length c6)) := Keep.set (fun k => k = w.heap.size + 2) _ _ _ rfl
  have hY7 := Lib.hid (hKk.heap (show ¬ w.heap.size + 1 = w.heap.size + 2 by omega) hY6)
  have hP7 := Lib.hid (hP6.out.keep hKk (fun a ha => by have := (hP6.out.ge a ha).1; omega))
  have hT7 := Lib.hid (hO6'.out.keep hKk (fun a ha => by have := (hO6'.out.ge a ha).1; omega))
  have hB7 := Lib.hid (below_keep hB6.out hKk (fun i e => by omega) hB6.out.size)
  clear hKk hE6 hg6 hT6 k101 hX6 hY6 hX5 hY5 hO5 hB5 hs5 hat6
  replace hQ6 := Lib.hid hQ6
  go_upto_region 16 with fail
  clear o101 z101 hQ6 hB6 hP6 hO6'
  generalize w6.setCell ⟨w.heap.size + 2, 101, none⟩ (.slice A6 m.text.length c6) = W7 at hO7 hY7 hP7 hT7 hB7 ⊢
  obtain ⟨E, hE⟩ : ∃ E, W7.heap[w.heap.size + 2]? = some (.cells E 36 (0, 0)) ∧ MsgC E (usedM m) (.slice A4 m.list.length c4) (.slice A6 m.text.length c6) := ⟨_, hO7.out, by rw [hu.out]; exact hD2.out⟩
  have hif : (Tryd.prog.info? 36).map (·.size) = some E.size := by rw [hE.2.size]; kernel_rfl
  have hzD : Tryd.zeroCells36.size = E.size := by rw [hE.2.size]; exact zC_size
  have hone := hE.2.one rfl rfl
  have rE := Lib.hid (rowAt_all hE.1)
  have hKy := setRow_keep W7 (w.heap.size + 1) E
  have hYz := setRow_heap W7 (w.heap.size + 1) _ E _ _ hY7.out
  have hBz := below_keep hB7.out hKy (fun i e => by omega) hB7.out.size
  have hKy' := hKy
  replace hE := Lib.hid hE
  go_wp2_with (first | (refine wpList_loadM _ rfl _ _ rfl (w.heap.size + 2) 0 rfl E rE.out _ Tryd.underlying36 rfl hif ?_) | (refine wpList_storeW _ rfl _ _ _ rfl (w.heap.size + 1) E rfl rfl _ _ hY7.out hif hzD hone ?_))
  have hL := run_loadVar_row (P := Tryd.prog) _ (w.heap.size + 1) 36 36 E (0, 0) _ hYz Tryd.underlying36 rfl hif
  have hul : (usedM m).list = m.list ∧ (usedM m).text = m.text := by rw [hu.out]; exact ⟨rfl, rfl⟩
  have hfin := hE.out.2
  have hPz := hP7.out.keep hKy' (fun a ha => by have := (hP7.out.ge a ha).1; omega)
  have hTz := hT7.out.keep hKy' (fun a ha => by have := (hT7.out.ge a ha).1; omega)
  refine bodyPost_ret (v := .agg E) (results_cell1 rfl _ _ ⟨w.heap.size + 1, 0, none⟩ (.agg E) rfl hL) rfl ⟨E, A4, c4, A6, c6, rfl, ⟨?_, ?_, ?_, ?_, ?_, ?_, ?_, ?_⟩, hBz, (fun a ha => by have := (hPz.ge a ha).1; omega), (fun a ha => by have := (hTz.ge a ha).1; omega)⟩
  · rw [hul.1, hul.2]; exact hfin
  · rw [hul.1]; exact hPz.cap
  · rw [hul.2]; exact hcapB hTz
  · rw [hul.1]; exact hPz.pairs hpk.out
  · rw [hul.2]; exact hTz.bs
  · rw [hul.1]; exact PairsOk.of hpk.out
  · rw [hul.1]; omega
  · rw [hul.2]; omega


theorem faultM_bd {m : Msg} (hf : faultM m = none) : m.kind = 3 → m.list.length ≤ 255 ∧ m.text.length ≤ 1048575 := fun h3 => by
  unfold faultM at hf
  by_cases c1 : ¬ (1 ≤ m.kind ∧ m.kind ≤ 6)
  · rw [if_pos c1] at hf; cases hf
  by_cases c2 : ¬ (0 ≤ m.from_ ∧ m.from_ ≤ 255)
  · rw [if_neg c1, if_pos c2] at hf; cases hf
  by_cases c3 : ¬ (0 ≤ m.to_ ∧ m.to_ ≤ 255)
  · rw [if_neg c1, if_neg c2, if_pos c3] at hf; cases hf
  rw [if_neg c1, if_neg c2, if_neg c3, if_neg (by omega), if_pos h3] at hf
  split at hf; · cases hf
  split at hf; · cases hf
  split at hf; · cases hf
  omega
theorem used_any (c1 : Array Value) (m : Msg) (LA : Option Addr) (lc : Nat) (TA : Option Addr) (tc : Nat) (w : World) (hM : MsgIn w c1 m LA lc TA tc) (hf : faultM m = none) : Calls Tryd.prog 54 #[.agg c1] w fun e w' => UsedPost w m e w' := by
  have hk := faultM_kind hf
  have hd : m.kind = 1 ∨ m.kind = 2 ∨ m.kind = 3 ∨ m.kind = 4 ∨ m.kind = 5 ∨ m.kind = 6 := by omega
  rcases hd with h | h | h | h | h | h
  · exact used_1 c1 m LA lc TA tc w hM h
  · exact used_2 c1 m LA lc TA tc w hM h
  · exact used_3 c1 m LA lc TA tc w hM h (faultM_bd hf)
  · exact used_4 c1 m LA lc TA tc w hM h
  · exact used_5 c1 m LA lc TA tc w hM h
  · exact used_6 c1 m LA lc TA tc w hM h
end Go.Proofs.YtmnmmabhmedioaaDoor
