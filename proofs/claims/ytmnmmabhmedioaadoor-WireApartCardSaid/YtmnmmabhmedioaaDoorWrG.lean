/- Wire: the frame of a message. -/
import Derived.Test.YtmnmmabhmedioaaDoorWrF
import Derived.Test.YtmnmmabhmedioaaDoorWrH
import Derived.Test.YtmnmmabhmedioaaDoorShaI
namespace Go.Proofs.YtmnmmabhmedioaaDoor
open Go.RowKit
set_option linter.unusedVariables false
set_option linter.unusedSimpArgs false
set_option maxRecDepth 100000

theorem later' {B : Nat} {a w w' : World} (h : Below B a w) (k : Below w.heap.size w w') (hs : B ≤ w.heap.size := by omega) : Below B a w' := h.trans (k.mono hs)
def preL (kd : UInt8) (body : List UInt8) : List UInt8 := [82, 73, 77, 69, 1, kd] ++ four body.length ++ body
def frameL (kd : UInt8) (body : List UInt8) : List UInt8 := preL kd body ++ (sha (preL kd body)).take 4
def Body (w : World) (n : Nat) (body : List UInt8) (e : Ending) (w' : World) : Prop := ∃ A c, e = .returned (.slice A n c) ∧ OwnB w' w.heap.size A c body ∧ Below w.heap.size w w'

set_option maxHeartbeats 8000000 in
theorem encode_ok (cs : Array Value) (m : Msg) (lv tv : Value) (hC : MsgC cs m lv tv) (hk1 : 1 ≤ m.kind) (hk6 : m.kind ≤ 6) (body : List UInt8) (n : Nat) (hn : body.length = n) (hn2 : n ≤ 4294967295)
    (w : World) (hbody : ∀ w1 : World, Below w.heap.size w w1 → Calls Tryd.prog 52 #[.agg cs] w1 (Body w1 n body)) :
    Calls Tryd.prog 16 #[.agg cs] w fun e w' => ∃ A c, e = .returned (.tuple #[.slice A (14 + n) c, .nilIface]) ∧ OwnB w' w.heap.size A c (frameL (u8 m.kind) body) ∧ Below w.heap.size w w' := by
  obtain ⟨i0, hi0, hz0, hz1, hz2⟩ := info_parts inf5
  replace hbody := Lib.hid hbody
  have kc := fun (w : World) (C : Array Value) (n c : Nat) => Lib.run_convert_bytes_const (P := Tryd.prog) w 22 5 C n c Tryd.underlying22 Tryd.underlying5
  go_enter_defers Tryd.func16, Tryd.ntmps16
  go_upto_region 2 with fail
  have hX : ((w.alloc (.cells cs 36)).alloc (.cells #[.nilIface] 38)).heap[w.heap.size]? = some (.cells cs 36 (0, 0)) := by
    rw [heap_alloc?, if_neg (by simp)]; exact heap_alloc_new w _
  have hE : ((w.alloc (.cells cs 36)).alloc (.cells #[.nilIface] 38)).heap[w.heap.size + 1]? = some (.cells #[.nilIface] 38 (0, 0)) := by
    rw [heap_alloc?, if_pos (by simp)]
  have hB : Below w.heap.size w ((w.alloc (.cells cs 36)).alloc (.cells #[.nilIface] 38)) := later (boxed _ _) (boxed _ _)
  have hs : ((w.alloc (.cells cs 36)).alloc (.cells #[.nilIface] 38)).heap.size = w.heap.size + 2 := by simp
  generalize ((w.alloc (.cells cs 36)).alloc (.cells #[.nilIface] 38)) = w1 at hX hE hB hs ⊢
  have hif : (Tryd.prog.info? 36).map (·.size) = some cs.size := by rw [hC.size]; kernel_rfl
  have k0 : w1.cell? ⟨w.heap.size, 0, none⟩ = some (.int .i64 m.kind) := cell_of hX hC.kind
  have hXs := Lib.hid hX
  replace hE := Lib.hid hE
  go_step
  refine wpList_loadW _ rfl _ _ rfl w.heap.size rfl cs _ hX _ Tryd.underlying36 rfl hif ?_
  clear hX hif
  go_wp2_with fail
  refine (hbody.out w1 hB).mono ?_
  rintro e w2 ⟨A2, c2, rfl, hO2, hB2⟩
  have hb2 := hB2.size
  have hR : Hid (∀ fz, Bs (w2.alloc (.cells #[.int .u8 82, .int .u8 73, .int .u8 77, .int .u8 69] 5 fz)) (some ⟨w2.heap.size, 0, none⟩) [82, 73, 77, 69]) := Lib.hid fun fz => Bs.arr fun i hi => by
    have h := heap_alloc_new w2 (.cells #[.int .u8 82, .int .u8 73, .int .u8 77, .int .u8 69] 5 fz)
    have : i = 0 ∨ i = 1 ∨ i = 2 ∨ i = 3 := by simp at hi; omega
    rcases this with rfl | rfl | rfl | rfl
    all_goals exact cell_of h rfl
  have k2 : w2.cell? ⟨w.heap.size, 0, none⟩ = some (.int .i64 m.kind) := cell_on hB2 k0
  have k3 : (w2.alloc (.cells #[.int .u8 82, .int .u8 73, .int .u8 77, .int .u8 69] 5 (4, 5))).cell? ⟨w.heap.size, 0, none⟩ = some (.int .i64 m.kind) := cell_on (boxed _ _) k2
  have ekd : nb (u8 m.kind) = m.kind := by
    rw [nb_u8 (by omega)]
    omega
  have hT := Bs.two (w2.alloc (.cells #[.int .u8 82, .int .u8 73, .int .u8 77, .int .u8 69] 5 (4, 5))) 1 (u8 m.kind) 5
  rw [ekd, show nb 1 = 1 from rfl] at hT
  replace hT := Lib.hid hT
  replace ekd := Lib.hid ekd
  replace hO2 := Lib.hid hO2
  have hE2 := Lib.hid (heap_on hB2 hE.out)
  have hX2 := Lib.hid (later hB hB2)
  clear hXs hE k0 hB2 hB
  go_wp2_with (at_builtin; go_must (refine wpList_append_bs_grow _ rfl _ _ 22 rfl i0 Tryd.underlying22 hi0 hz0 hz1 hz2 w2.heap.size 0 4 4 [82, 73, 77, 69] rfl rfl ((hR.out (4, 5)).on (boxed _ _)).at (w2.heap.size + 1) 0 2 2 [1, u8 m.kind] rfl rfl ?q2 ?q3 ?q4 ?_))
  case q2 =>
    have h := hT.out
    simp at h
    exact h.at
  case q3 => simp
  case q4 => simp
  intro c3 w3 hO3 hB3
  have hB23 : Below w2.heap.size w2 w3 := (later (boxed w2 _) (boxed _ _)).trans (hB3.mono (by omega))
  replace hO3 : OwnB w3 w2.heap.size (some ⟨w2.heap.size + 1 + 1, 0, none⟩) c3 [82, 73, 77, 69, 1, u8 m.kind] := OwnB.lower hO3 (by omega)
  have hs3 := hB23.size
  have hA2 := Lib.hid hO2.out.ge
  have hbd2 := Lib.hid hO2.out.bs
  have hel : w.heap.size + 1 < w2.heap.size := heap_lt hE2.out
  generalize w2.heap.size + 1 + 1 = R at hO3 ⊢
  replace hO3 := Lib.hid hO3
  replace hB23 := Lib.hid hB23
  clear hT hR hB3 hO2 k2 k3
  go_wp2_with fail
  refine (highest4 n (by omega) _).mono ?_
  rintro e w4 ⟨rfl, hO4, hB4⟩
  have hs4 := hB4.size
  have hb4 := Lib.hid hO4.bs
  have hO5 := Lib.hid (hO3.out.on hB4)
  have hB24 := Lib.hid (later' hB23.out hB4)
  clear hO3 hO4 hB4 hB23
  go_wp2_with (at_builtin; go_must (refine wpList_append_bs _ rfl _ _ 22 rfl w2.heap.size i0 Tryd.underlying22 hi0 hz0 hz1 hz2 (some ⟨R, 0, none⟩) 6 c3 [82, 73, 77, 69, 1, u8 m.kind] rfl rfl hO5.out _ 4 4 (four n) rfl rfl hb4.out ?q5 ?q6 ?_))
  case q5 => simp [four]
  case q6 => omega
  intro A5 c5 w5 hO6 hg5 hat5
  have hB25 := Lib.hid (below_grew hB24.out hO5.out (Nat.le_refl _) (by omega) hg5)
  have hs5 := hB25.out.size
  have hbd5 := Lib.hid (hbd2.out.below hB25.out (fun a ha => (hA2.out a ha).2))
  replace hO6 : OwnB w5 w2.heap.size A5 c5 ([82, 73, 77, 69, 1, u8 m.kind] ++ four n) := hO6
  replace hO6 := Lib.hid hO6
  clear hO5 hb4 hB24 hg5 hat5
  go_wp2_with (at_builtin; go_must (refine wpList_append_bs _ rfl _ _ 22 rfl w2.heap.size i0 Tryd.underlying22 hi0 hz0 hz1 hz2 A5 10 c5 ([82, 73, 77, 69, 1, u8 m.kind] ++ four n) rfl rfl hO6.out A2 n c2 body hn rfl hbd5.out ?q7 ?q8 ?_))
  case q7 => simp [four]; omega
  case q8 => omega
  intro A6 c6 w6 hO7 hg6 hat6
  have hB26 := Lib.hid (below_grew hB25.out hO6.out (Nat.le_refl _) (by omega) hg6)
  have hs6 := hB26.out.size
  replace hO7 : OwnB w6 w2.heap.size A6 c6 (preL (u8 m.kind) body) := by rw [preL, hn]; exact hO7
  have hpl : (preL (u8 m.kind) body).length = 10 + n := by simp [preL, four]; omega
  obtain ⟨g, cur, rfl, hg, hgr, hgc⟩ : ∃ g cur, A6 = some ⟨g, 0, none⟩ ∧ w2.heap.size ≤ g ∧ w6.heap[g]? = some (.cells cur 5 (0, 0)) ∧ (preL (u8 m.kind) body).length ≤ c6 := by
    rcases hO7.form with ⟨_, _, h⟩ | h
    · rw [h] at hpl
      simp at hpl
      omega
    · exact h
  have hgl := heap_lt hgr
  have hbs6 := Lib.hid hO7.bs
  replace hO7 := Lib.hid hO7
  clear hO6 hbd5 hB25 hg6 hat6 hgr hA2 hbd2
  go_wp2_with fail
  have hsum := sum1_any g 0 c6 (preL (u8 m.kind) body) w6 hgc (by omega) hbs6.out hgl
  rw [hpl] at hsum
  refine hsum.mono ?_
  rintro e w7 ⟨rfl, hB7⟩
  clear hsum
  rename_i hK
  have hsz : ((sha (preL (u8 m.kind) body)).map B8).toArray.size = 64 := by simp [sha_length]
  have hone : ((sha (preL (u8 m.kind) body)).map B8).toArray.all (·.oneCell') = true := all_oneCell_toArray one_bytes
  have hget : ∀ i, i < 4 → ((sha (preL (u8 m.kind) body)).map B8).toArray[i]? = some (B8 (((sha (preL (u8 m.kind) body)).take 4).getD i 0)) := fun i hi => by
    rw [getD_take _ hi]
    have hl := sha_length (preL (u8 m.kind) body)
    simp [List.getElem?_eq_getElem (show i < (sha (preL (u8 m.kind) body)).length by omega)]
  have hl4 : ((sha (preL (u8 m.kind) body)).take 4).length = 4 := by simp [sha_length]
  have hfr : Hid (frameL (u8 m.kind) body = preL (u8 m.kind) body ++ (sha (preL (u8 m.kind) body)).take 4) := Lib.hid rfl
  have hO8 := Lib.hid (hO7.out.on hB7)
  have hB27 := Lib.hid (later' hB26.out hB7)
  have hs7 := hB7.size
  clear hO7 hB26 hB7 hbs6 hgl hgc
  refine hK _ _ ?_
  clear hK
  generalize ((sha (preL (u8 m.kind) body)).map B8).toArray = D at hsz hone hget ⊢
  generalize (sha (preL (u8 m.kind) body)).take 4 = s4 at hget hl4 hfr
  have hif : (Tryd.prog.info? 97).map (·.size) = some D.size := by rw [hsz]; kernel_rfl
  refine wpList_value (w' := w7.alloc (.cells z64 97)) rfl (.pointer (some ⟨w7.heap.size, 0, none⟩)) (by kernel_rfl) ?_
  refine wpList_skips (w' := w7.alloc (.cells D 97)) rfl ?_ ?_
  · have h := run_storeAt_new (P := Tryd.prog) w7 97 z64 D hif (by rw [hsz]; rfl) hone
    show (Instr.storeAt 97 (.pointer (some ⟨w7.heap.size, 0, none⟩)) (.agg D) >>= fun _ => pure Next.skip : Sem Next).run Tryd.prog _ = _
    simp only [Sem.run_bind, h, Result.andThen, Sem.run_pure]
  refine wpList_nil ?_
  simp only [Act.put]
  have hD : Bs (w7.alloc (.cells D 97)) (some ⟨w7.heap.size, 0, none⟩) s4 := Bs.arr fun i hi => by
    rw [Nat.zero_add]
    exact cell_of (heap_alloc_new w7 _) (hget i (by omega))
  have hO9 := Lib.hid (hO8.out.on (boxed w7 (.cells D 97)))
  have hB28 := Lib.hid (later' hB27.out (boxed w7 (.cells D 97)))
  have hs8 : (w7.alloc (.cells D 97)).heap.size = w7.heap.size + 1 := by simp
  generalize w7.alloc (.cells D 97) = w8 at hD hO9 hB28 hs8 ⊢
  replace hD := Lib.hid hD
  clear hO8 hB27 hget hone hif
  go_wp2_with (at_builtin; go_must (refine wpList_append_bs _ rfl _ _ 22 rfl w2.heap.size i0 Tryd.underlying22 hi0 hz0 hz1 hz2 (some ⟨g, 0, none⟩) (10 + n) c6 (preL (u8 m.kind) body) hpl rfl hO9.out (some ⟨w7.heap.size, 0, none⟩) 4 64 s4 hl4 rfl hD.out ?q1 ?q9 ?_))
  case q1 => omega
  case q9 => omega
  intro A9 c9 w9 hOz hg9 hat9
  have hB29 := below_grew hB28.out hO9.out (Nat.le_refl _) (by omega) hg9
  have hEz := (hB29.block (w.heap.size + 1) hel).trans hE2.out
  have ce : w9.cell? ⟨w.heap.size + 1, 0, none⟩ = some .nilIface := cell_of hEz rfl
  have cf : w9.frozen? ⟨w.heap.size + 1, 0, none⟩ = false := free_of hEz
  replace hEz := Lib.hid hEz
  replace hOz := Lib.hid hOz
  replace hB29 := Lib.hid hB29
  clear hg9 hat9 hO9 hB28 hD
  go_wp2
  refine leaves_cons (f := 36) (args := #[.pointer (some ⟨w.heap.size + 1, 0, none⟩)]) (by simp) (by simp [go_sem]) ?_
  refine (caught_idle ⟨w.heap.size + 1, 0, none⟩ _).mono ?_
  rintro e u' w'' ⟨rfl, rfl, rfl⟩
  have hc : (w9.setCell ⟨w.heap.size + 1, 0, none⟩ .nilIface).cell? ⟨w.heap.size + 1, 0, none⟩ = some .nilIface := cell_of (heap_set hEz.out _) rfl
  have hfin : OwnB (w9.setCell ⟨w.heap.size + 1, 0, none⟩ .nilIface) w.heap.size A9 c9 (frameL (u8 m.kind) body) := by
    rw [hfr.out]
    exact OwnB.lower ((hOz.out).keep (Keep.set (fun k => k = w.heap.size + 1) _ _ _ rfl) (fun a ha => by have := (hOz.out.ge a ha).1; omega)) (by omega)
  have hBf : Below w.heap.size w (w9.setCell ⟨w.heap.size + 1, 0, none⟩ .nilIface) := ((hX2.out.trans (hB29.out.mono (by omega)))).setCell (p := ⟨w.heap.size + 1, 0, none⟩) (Nat.le_succ _) _
  simp [Leaves, settle, results, Tryd.results16, go_sem, hc]
  exact ⟨A9, c9, ⟨rfl, by omega, rfl⟩, hfin, hBf⟩
end Go.Proofs.YtmnmmabhmedioaaDoor
