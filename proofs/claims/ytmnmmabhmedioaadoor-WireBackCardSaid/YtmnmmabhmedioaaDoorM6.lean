/- SHA-512: Join and Sum of bytes. -/
import Derived.Test.YtmnmmabhmedioaaDoorM5
import Derived.Test.YtmnmmabhmedioaaDoorM2
import Derived.Stop.BytesEq
namespace Go.Proofs.YtmnmmabhmedioaaDoor
open Go.RowKit
set_option linter.unusedVariables false
set_option linter.unusedSimpArgs false

/-- A part: where it lies, its capacity, its bytes. -/
structure Part where
  b : Nat
  o : Nat
  c : Nat
  l : List UInt8
def Part.zero : Part := ⟨0, 0, 0, []⟩
structure PartIn (w : World) (a : Addr) (p : Part) : Prop where
  cell : w.cell? a = some (.slice (some ⟨p.b, p.o, none⟩) p.l.length p.c)
  cap : p.l.length ≤ p.c
  bs : ∀ i, i < p.l.length → w.cell? ⟨p.b, p.o + i, none⟩ = some (B8 (p.l.getD i 0))
  lt : p.b < w.heap.size
def partsL (ps : List Part) : List UInt8 := ps.flatMap (·.l)
theorem partsL_take_succ {ps : List Part} {k : Nat} (h : k < ps.length) : partsL (ps.take (k + 1)) = partsL (ps.take k) ++ (ps.getD k Part.zero).l := by
  unfold partsL
  rw [List.take_succ_eq_append_getElem h, List.flatMap_append, List.getD_eq_getElem?_getD, List.getElem?_eq_getElem h]
  simp
theorem partsL_take_le (ps : List Part) (k : Nat) : (partsL (ps.take k)).length ≤ (partsL ps).length := by
  have : partsL ps = partsL (ps.take k) ++ partsL (ps.drop k) := by
    unfold partsL
    rw [← List.flatMap_append, List.take_append_drop]
  rw [this, List.length_append]
  omega

set_option maxRecDepth 100000 in
set_option maxHeartbeats 8000000 in
theorem join_any (pb po pc : Nat) (ps : List Part) (w : World) (hp : ∀ i, i < ps.length → PartIn w ⟨pb, po + i, none⟩ (ps.getD i Part.zero)) (hl : (partsL ps).length ≤ 1099511627776) (hn : ps.length ≤ 1099511627776) :
    Calls Tryd.prog 79 #[.slice (some ⟨pb, po, none⟩) ps.length pc] w fun e w' => e = .returned (.agg ((sha (partsL ps)).map B8).toArray) ∧ Below w.heap.size w w' := by
  have HP := Lib.hid hp
  have HL := Lib.hid hl
  clear hp hl
  go_enter Tryd.func79, Tryd.ntmps79
  go_upto_region 1 with fail
  go_cut [3] (fun s3 wx => ∃ hp kb, s3 = .pointer (some ⟨hp, 0, none⟩) ∧ HM wx (w.heap.size + 1) hp kb [] ∧ w.heap.size + 1 ≤ hp ∧ w.heap.size + 1 ≤ wx.heap.size ∧ wx.heap[w.heap.size]? = some (.cells z64 97 (0, 0)) ∧ Below w.heap.size w wx)
  case first =>
    have hz : ∀ w1 : World, w.heap.size + 1 ≤ w1.heap.size → Below (w.heap.size + 1) (w.alloc (.cells z64 97)) w1 → w1.heap[w.heap.size]? = some (.cells z64 97 (0, 0)) ∧ Below w.heap.size w w1 := fun w1 h1 h2 =>
      ⟨heap_on (w := w.alloc (.cells z64 97)) (by simpa using h2) (heap_alloc_new w _), later (boxed w _) (by simpa using h2)⟩
    replace hz := Lib.hid hz
    go_wp2_with fail
    refine (new_any _).mono ?_
    rintro e w1 ⟨hp, kb, rfl, h1, h2, hH, hB⟩
    simp at h1 h2 hB
    have hs := hB.size
    simp at hs
    have hz2 := hz.out w1 hs hB
    replace hH := Lib.hid hH
    replace hB := Lib.hid hB
    replace hz2 := Lib.hid hz2
    go_wp2_with fail
    go_meet
    exact ⟨hp, kb, rfl, ⟨none, 0, hH.out, OwnB.nil _ _⟩, h1, hs, hz2.out.1, hz2.out.2⟩
  case rest =>
    obtain ⟨hp, kb, rfl, hH, h1, h2, h3, hB⟩ := hcut
    have hI := Lib.hid (show HM wc (w.heap.size + 1) hp kb (partsL (ps.take 0)) ∧ wc.heap[w.heap.size]? = some (.cells z64 97 (0, 0)) ∧ Below w.heap.size w wc ∧ w.heap.size + 1 ≤ wc.heap.size from ⟨by simpa [partsL] using hH, h3, hB, h2⟩)
    clear hH h2 h3 hB
    go_wp2_with fail
    go_loopw [9] (fun i wr => ∃ k : Nat, k ≤ ps.length ∧ i = .int .i64 k ∧ HM wr (w.heap.size + 1) hp kb (partsL (ps.take k)) ∧ wr.heap[w.heap.size]? = some (.cells z64 97 (0, 0)) ∧ Below w.heap.size w wr ∧ w.heap.size + 1 ≤ wr.heap.size) (fun i _ => ps.length - (intOf i).toNat)
    case atStart => exact ⟨0, Nat.zero_le _, rfl, hI.out⟩
    case round =>
      clear hI
      obtain ⟨k, hk, rfl, hH, hd, hB, hs⟩ := hrel
      rcases Nat.lt_or_ge k ps.length with hlt | hge
      · have hpk := HP.out k hlt
        have hss := Lib.hid (partsL_take_succ hlt)
        have hsl := partsL_take_le ps k
        have hsl2 := partsL_take_le ps (k + 1)
        rw [hss.out, List.length_append] at hsl2
        have hl2 := HL.out
        have x1 := cell_on hB hpk.cell
        have hcap := hpk.cap
        have hbb := hpk.lt
        have hbs := Lib.hid (fun i hi => cell_on hB (hpk.bs i hi))
        have k0 : (0 : Int) ≤ (k : Int) := by omega
        have k1 : (k : Int) < (ps.length : Int) := by omega
        clear hpk
        generalize ps.getD k Part.zero = p at *
        generalize hM : partsL (ps.take k) = M at *
        replace hM := Lib.hid hM
        replace hH := Lib.hid hH
        replace hd := Lib.hid hd
        replace hB := Lib.hid hB
        go_wp2_with fail
        refine (write_any (w.heap.size + 1) hp kb p.b p.o p.c M p.l _ hH.out (by omega) h1 (by omega) hcap (by omega) (by omega) hbs.out).mono ?_
        rintro e w2 ⟨rfl, hH2, hB2⟩
        have hd2 := Lib.hid ((hB2.block w.heap.size (by omega)).trans hd.out)
        have hB3 : Hid (Below w.heap.size w w2) := Lib.hid (hB.out.trans (hB2.mono (by omega)))
        have hs2 := hB2.size
        replace hH2 := Lib.hid hH2
        replace hB2 := Lib.hid hB2
        go_wp2_with fail
        go_roundw
        case rel =>
          refine ⟨k + 1, by omega, by go_num, ?_, hd2.out, hB3.out, by omega⟩
          rw [hss.out]
          exact hH2.out
        case measure => simp [intOf]; omega
      · have : k = ps.length := by omega
        subst this
        rw [List.take_length] at hH
        replace hd := Lib.hid hd
        replace hB := Lib.hid hB
        have hl2 := HL.out
        go_wp2_with fail
        refine (sum_any (w.heap.size + 1) hp kb _ _ hH (by omega)).mono ?_
        rintro e w2 ⟨rfl, hB2⟩
        rename_i hK
        have hd2 := Lib.hid (heap_on hB2 hd.out)
        have hB3 := Lib.hid (below_keep hB.out (Keep.of_below (D := fun _ => False) hB2) (fun _ h => h.elim) (by omega))
        have hsz : ((sha (partsL ps)).map B8).toArray.size = 64 := by simp [sha_length]
        have hone : ((sha (partsL ps)).map B8).toArray.all (·.oneCell') = true := all_oneCell_toArray one_bytes
        have hs2 := hB2.size
        clear hB2 hH hd hB
        generalize hD : ((sha (partsL ps)).map B8).toArray = D at hsz hone
        replace hD := Lib.hid hD
        have hif : (Tryd.prog.info? 97).map (·.size) = some D.size := by rw [hsz]; kernel_rfl
        refine hK _ _ ?_
        refine wpList_storeW _ rfl _ _ _ rfl w.heap.size D rfl rfl z64 _ hd2.out hif (by rw [hsz]; rfl) hone ?_
        refine wpList_nil ?_
        go_wp2
        exact bodyPost_ret (results_cell_row rfl _ _ w.heap.size 97 D (0, 0) _ rfl (setRow_heap _ _ _ _ _ _ hd2.out) Tryd.underlying97 rfl hif) rfl ⟨by rw [hD.out], below_keep hB3.out (setRow_keep _ _ _) (fun i e => by omega) (by omega)⟩
end Go.Proofs.YtmnmmabhmedioaaDoor
/- SHA-512: Sum of bytes. -/
namespace Go.Proofs.YtmnmmabhmedioaaDoor
open Go.RowKit
set_option linter.unusedVariables false
set_option linter.unusedSimpArgs false

set_option maxRecDepth 100000 in
set_option maxHeartbeats 8000000 in
theorem sum1_any (b o c : Nat) (l : List UInt8) (w : World) (hc : l.length ≤ c) (hl : l.length ≤ 1099511627776) (hX : Bs w (some ⟨b, o, none⟩) l) (hb : b < w.heap.size) :
    Calls Tryd.prog 39 #[.slice (some ⟨b, o, none⟩) l.length c] w fun e w' => e = .returned (.agg ((sha l).map B8).toArray) ∧ Below w.heap.size w w' := by
  replace hX := Lib.hid hX
  go_enter Tryd.func39, Tryd.ntmps39
  go_upto_region 1 with fail
  have hz := Lib.hid (heap_alloc_new w (.cells z64 97))
  have hsz : (w.alloc (.cells z64 97)).heap.size = w.heap.size + 1 := by simp
  have hbl := Lib.hid (boxed w (.cells z64 97))
  have hX1 := Lib.hid (hX.out.on hbl.out)
  generalize hw1 : w.alloc (.cells z64 97) = w1 at hz hsz hbl hX1
  have e1 : w1 = w.alloc (.cells z64 97) := hw1.symm
  refine Eq.mp (congrArg _ (show w1 = w.alloc (.cells _ 97) from e1)) ?_
  clear e1 hw1
  have hP : ∀ T i, i < [Part.mk b o c l].length → PartIn (w1.alloc (.cells #[.slice (some ⟨b, o, none⟩) l.length c] T)) ⟨w1.heap.size, 0 + i, none⟩ ([Part.mk b o c l].getD i Part.zero) := fun T i hi => by
    obtain rfl : i = 0 := by simpa using hi
    exact ⟨cell_of (heap_alloc_new _ _) rfl, hc, (hX1.out.on (boxed _ _)).at, by simp; omega⟩
  rw [hsz] at hP
  replace hP := Lib.hid hP
  go_wp2_with fail
  refine (join_any (w.heap.size + 1) 0 1 [⟨b, o, c, l⟩] _ (hP.out _) (by simpa [partsL] using hl) (by simp)).mono ?_
  rintro e w2 ⟨rfl, hB2⟩
  rename_i hK
  have hb2 := Lib.hid (later (boxed _ _) hB2)
  have hd2 := Lib.hid (heap_on hb2.out hz.out)
  have hB3 := Lib.hid (later hbl.out hb2.out)
  have hpl : partsL [⟨b, o, c, l⟩] = l := by simp [partsL]
  rw [hpl]
  have hs2 := hb2.out.size
  have hsD : ((sha l).map B8).toArray.size = 64 := by simp [sha_length]
  have hone : ((sha l).map B8).toArray.all (·.oneCell') = true := all_oneCell_toArray one_bytes
  clear hB2 hb2 hP hz
  generalize hD : ((sha l).map B8).toArray = D at hsD hone ⊢
  have hif : (Tryd.prog.info? 97).map (·.size) = some D.size := by rw [hsD]; kernel_rfl
  refine hK _ _ ?_
  refine wpList_storeW _ rfl _ _ _ rfl w.heap.size D rfl rfl z64 _ hd2.out hif (by rw [hsD]; rfl) hone ?_
  refine wpList_nil ?_
  go_wp2
  exact bodyPost_ret (results_cell_row rfl _ _ w.heap.size 97 D (0, 0) _ rfl (setRow_heap _ _ _ _ _ _ hd2.out) Tryd.underlying97 rfl hif) rfl ⟨by rw [hD], below_keep hB3.out (setRow_keep _ _ _) (fun i e => by omega) (by omega)⟩
end Go.Proofs.YtmnmmabhmedioaaDoor
/- Wire: the frame of a message. -/
namespace Go.Proofs.YtmnmmabhmedioaaDoor
open Go.RowKit
set_option linter.unusedVariables false
set_option linter.unusedSimpArgs false
set_option maxRecDepth 100000

theorem later' {B : Nat} {a w w' : World} (h : Below B a w) (k : Below w.heap.size w w') (hs : B ≤ w.heap.size := by omega) : Below B a w' := h.trans (k.mono hs)
def preL (kd : UInt8) (body : List UInt8) : List UInt8 := [82, 73, 77, 69, 1, kd] ++ four body.length ++ body
def frameL (kd : UInt8) (body : List UInt8) : List UInt8 := preL kd body ++ (sha (preL kd body)).take 4
def Body (w : World) (n : Nat) (body : List UInt8) (e : Ending) (w' : World) : Prop := ∃ A c, e = .returned (.slice A n c) ∧ OwnB w' w.heap.size A c body ∧ Below w.heap.size w w'

set_option maxHeartbeats 8000000 in
theorem encode_ok (cs : Array Value) (m : Msg) (lv tv : Value) (hC : MsgC cs m lv tv) (hk1 : 1 ≤ m.kind) (hk6 : m.kind ≤ 6) (body : List UInt8) (n : Nat) (hn : body.length = n) (hn2 : n ≤ 4294967295)
    (w : World) (hbody : ∀ w1 : World, Below w.heap.size w w1 → Calls Tryd.prog 52 #[.agg cs] w1 (Body w1 n body)) :
    Calls Tryd.prog 16 #[.agg cs] w fun e w' => ∃ A c, e = .returned (.tuple #[.slice A (14 + n) c, .nilIface]) ∧ OwnB w' w.heap.size A c (frameL (u8 m.kind) body) ∧ Below w.heap.size w w' := by
  obtain ⟨i0, hi0, hz0, hz1, hz2⟩ := info_parts inf5
  replace hbody := Lib.hid hbody
  have kc := fun (w : World) (C : Array Value) (n c : Nat) => Lib.run_convert_bytes_const (P := Tryd.prog) w 22 5 C n c Tryd.underlying22 Tryd.underlying5
  go_enter_defers Tryd.func16, Tryd.ntmps16
  go_upto_region 2 with fail
  have hX : ((w.alloc (.cells cs 36)).alloc (.cells #[.nilIface] 38)).heap[w.heap.size]? = some (.cells cs 36 (0, 0)) := by
    rw [heap_alloc?, if_neg (by simp)]; exact heap_alloc_new w _
  have hE : ((w.alloc (.cells cs 36)).alloc (.cells #[.nilIface] 38)).heap[w.heap.size + 1]? = some (.cells #[.nilIface] 38 (0, 0)) := by
    rw [heap_alloc?, if_pos (by simp)]
  have hB : Below w.heap.size w ((w.alloc (.cells cs 36)).alloc (.cells #[.nilIface] 38)) := later (boxed _ _) (boxed _ _)
  have hs : ((w.alloc (.cells cs 36)).alloc (.cells #[.nilIface] 38)).heap.size = w.heap.size + 2 := by simp
  generalize ((w.alloc (.cells cs 36)).alloc (.cells #[.nilIface] 38)) = w1 at hX hE hB hs ⊢
  have hif : (Tryd.prog.info? 36).map (·.size) = some cs.size := by rw [hC.size]; kernel_rfl
  have k0 : w1.cell? ⟨w.heap.size, 0, none⟩ = some (.int .i64 m.kind) := cell_of hX hC.kind
  have hXs := Lib.hid hX
  replace hE := Lib.hid hE
  go_step
  refine wpList_loadW _ rfl _ _ rfl w.heap.size rfl cs _ hX _ Tryd.underlying36 rfl hif ?_
  clear hX hif
  go_wp2_with fail
  refine (hbody.out w1 hB).mono ?_
  rintro e w2 ⟨A2, c2, rfl, hO2, hB2⟩
  have hb2 := hB2.size
  have hR : Hid (∀ fz, Bs (w2.alloc (.cells #[.int .u8 82, .int .u8 73, .int .u8 77, .int .u8 69] 5 fz)) (some ⟨w2.heap.size, 0, none⟩) [82, 73, 77, 69]) := Lib.hid fun fz => Bs.arr fun i hi => by
    have h := heap_alloc_new w2 (.cells #[.int .u8 82, .int .u8 73, .int .u8 77, .int .u8 69] 5 fz)
    have : i = 0 ∨ i = 1 ∨ i = 2 ∨ i = 3 := by simp at hi; omega
    rcases this with rfl | rfl | rfl | rfl
    all_goals exact cell_of h rfl
  have k2 : w2.cell? ⟨w.heap.size, 0, none⟩ = some (.int .i64 m.kind) := cell_on hB2 k0
  have k3 : (w2.alloc (.cells #[.int .u8 82, .int .u8 73, .int .u8 77, .int .u8 69] 5 (4, 5))).cell? ⟨w.heap.size, 0, none⟩ = some (.int .i64 m.kind) := cell_on (boxed _ _) k2
  have ekd : nb (u8 m.kind) = m.kind := by
    rw [nb_u8 (by omega)]
    omega
  have hT := Bs.two (w2.alloc (.cells #[.int .u8 82, .int .u8 73, .int .u8 77, .int .u8 69] 5 (4, 5))) 1 (u8 m.kind) 5
  rw [ekd, show nb 1 = 1 from rfl] at hT
  replace hT := Lib.hid hT
  replace ekd := Lib.hid ekd
  replace hO2 := Lib.hid hO2
  have hE2 := Lib.hid (heap_on hB2 hE.out)
  have hX2 := Lib.hid (later hB hB2)
  clear hXs hE k0 hB2 hB
  go_wp2_with (at_builtin; go_must (refine wpList_append_bs_grow _ rfl _ _ 22 rfl i0 Tryd.underlying22 hi0 hz0 hz1 hz2 w2.heap.size 0 4 4 [82, 73, 77, 69] rfl rfl ((hR.out (4, 5)).on (boxed _ _)).at (w2.heap.size + 1) 0 2 2 [1, u8 m.kind] rfl rfl ?q2 ?q3 ?q4 ?_))
  case q2 =>
    have h := hT.out
    simp at h
    exact h.at
  case q3 => simp
  case q4 => simp
  intro c3 w3 hO3 hB3
  have hB23 : Below w2.heap.size w2 w3 := (later (boxed w2 _) (boxed _ _)).trans (hB3.mono (by omega))
  replace hO3 : OwnB w3 w2.heap.size (some ⟨w2.heap.size + 1 + 1, 0, none⟩) c3 [82, 73, 77, 69, 1, u8 m.kind] := OwnB.lower hO3 (by omega)
  have hs3 := hB23.size
  have hA2 := Lib.hid hO2.out.ge
  have hbd2 := Lib.hid hO2.out.bs
  have hel : w.heap.size + 1 < w2.heap.size := heap_lt hE2.out
  generalize w2.heap.size + 1 + 1 = R at hO3 ⊢
  replace hO3 := Lib.hid hO3
  replace hB23 := Lib.hid hB23
  clear hT hR hB3 hO2 k2 k3
  go_wp2_with fail
  refine (highest4 n (by omega) _).mono ?_
  rintro e w4 ⟨rfl, hO4, hB4⟩
  have hs4 := hB4.size
  have hb4 := Lib.hid hO4.bs
  have hO5 := Lib.hid (hO3.out.on hB4)
  have hB24 := Lib.hid (later' hB23.out hB4)
  clear hO3 hO4 hB4 hB23
  go_wp2_with (at_builtin; go_must (refine wpList_append_bs _ rfl _ _ 22 rfl w2.heap.size i0 Tryd.underlying22 hi0 hz0 hz1 hz2 (some ⟨R, 0, none⟩) 6 c3 [82, 73, 77, 69, 1, u8 m.kind] rfl rfl hO5.out _ 4 4 (four n) rfl rfl hb4.out ?q5 ?q6 ?_))
  case q5 => simp [four]
  case q6 => omega
  intro A5 c5 w5 hO6 hg5 hat5
  have hB25 := Lib.hid (below_grew hB24.out hO5.out (Nat.le_refl _) (by omega) hg5)
  have hs5 := hB25.out.size
  have hbd5 := Lib.hid (hbd2.out.below hB25.out (fun a ha => (hA2.out a ha).2))
  replace hO6 : OwnB w5 w2.heap.size A5 c5 ([82, 73, 77, 69, 1, u8 m.kind] ++ four n) := hO6
  replace hO6 := Lib.hid hO6
  clear hO5 hb4 hB24 hg5 hat5
  go_wp2_with (at_builtin; go_must (refine wpList_append_bs _ rfl _ _ 22 rfl w2.heap.size i0 Tryd.underlying22 hi0 hz0 hz1 hz2 A5 10 c5 ([82, 73, 77, 69, 1, u8 m.kind] ++ four n) rfl rfl hO6.out A2 n c2 body hn rfl hbd5.out ?q7 ?q8 ?_))
  case q7 => simp [four]; omega
  case q8 => omega
  intro A6 c6 w6 hO7 hg6 hat6
  have hB26 := Lib.hid (below_grew hB25.out hO6.out (Nat.le_refl _) (by omega) hg6)
  have hs6 := hB26.out.size
  replace hO7 : OwnB w6 w2.heap.size A6 c6 (preL (u8 m.kind) body) := by rw [preL, hn]; exact hO7
  have hpl : (preL (u8 m.kind) body).length = 10 + n := by simp [preL, four]; omega
  obtain ⟨g, cur, rfl, hg, hgr, hgc⟩ : ∃ g cur, A6 = some ⟨g, 0, none⟩ ∧ w2.heap.size ≤ g ∧ w6.heap[g]? = some (.cells cur 5 (0, 0)) ∧ (preL (u8 m.kind) body).length ≤ c6 := by
    rcases hO7.form with ⟨_, _, h⟩ | h
    · rw [h] at hpl
      simp at hpl
      omega
    · exact h
  have hgl := heap_lt hgr
  have hbs6 := Lib.hid hO7.bs
  replace hO7 := Lib.hid hO7
  clear hO6 hbd5 hB25 hg6 hat6 hgr hA2 hbd2
  go_wp2_with fail
  have hsum := sum1_any g 0 c6 (preL (u8 m.kind) body) w6 hgc (by omega) hbs6.out hgl
  rw [hpl] at hsum
  refine hsum.mono ?_
  rintro e w7 ⟨rfl, hB7⟩
  clear hsum
  rename_i hK
  have hsz : ((sha (preL (u8 m.kind) body)).map B8).toArray.size = 64 := by simp [sha_length]
  have hone : ((sha (preL (u8 m.kind) body)).map B8).toArray.all (·.oneCell') = true := all_oneCell_toArray one_bytes
  have hget : ∀ i, i < 4 → ((sha (preL (u8 m.kind) body)).map B8).toArray[i]? = some (B8 (((sha (preL (u8 m.kind) body)).take 4).getD i 0)) := fun i hi => by
    rw [getD_take _ hi]
    have hl := sha_length (preL (u8 m.kind) body)
    simp [List.getElem?_eq_getElem (show i < (sha (preL (u8 m.kind) body)).length by omega)]
  have hl4 : ((sha (preL (u8 m.kind) body)).take 4).length = 4 := by simp [sha_length]
  have hfr : Hid (frameL (u8 m.kind) body = preL (u8 m.kind) body ++ (sha (preL (u8 m.kind) body)).take 4) := Lib.hid rfl
  have hO8 := Lib.hid (hO7.out.on hB7)
  have hB27 := Lib.hid (later' hB26.out hB7)
  have hs7 := hB7.size
  clear hO7 hB26 hB7 hbs6 hgl hgc
  refine hK _ _ ?_
  clear hK
  generalize ((sha (preL (u8 m.kind) body)).map B8).toArray = D at hsz hone hget ⊢
  generalize (sha (preL (u8 m.kind) body)).take 4 = s4 at hget hl4 hfr
  have hif : (Tryd.prog.info? 97).map (·.size) = some D.size := by rw [hsz]; kernel_rfl
  refine wpList_value (w' := w7.alloc (.cells z64 97)) rfl (.pointer (some ⟨w7.heap.size, 0, none⟩)) (by kernel_rfl) ?_
  refine wpList_skips (w' := w7.alloc (.cells D 97)) rfl ?_ ?_
  · have h := run_storeAt_new (P := Tryd.prog) w7 97 z64 D hif (by rw [hsz]; rfl) hone
    show (Instr.storeAt 97 (.pointer (some ⟨w7.heap.size, 0, none⟩)) (.agg D) >>= fun _ => pure Next.skip : Sem Next).run Tryd.prog _ = _
    simp only [Sem.run_bind, h, Result.andThen, Sem.run_pure]
  refine wpList_nil ?_
  simp only [Act.put]
  have hD : Bs (w7.alloc (.cells D 97)) (some ⟨w7.heap.size, 0, none⟩) s4 := Bs.arr fun i hi => by
    rw [Nat.zero_add]
    exact cell_of (heap_alloc_new w7 _) (hget i (by omega))
  have hO9 := Lib.hid (hO8.out.on (boxed w7 (.cells D 97)))
  have hB28 := Lib.hid (later' hB27.out (boxed w7 (.cells D 97)))
  have hs8 : (w7.alloc (.cells D 97)).heap.size = w7.heap.size + 1 := by simp
  generalize w7.alloc (.cells D 97) = w8 at hD hO9 hB28 hs8 ⊢
  replace hD := Lib.hid hD
  clear hO8 hB27 hget hone hif
  go_wp2_with (at_builtin; go_must (refine wpList_append_bs _ rfl _ _ 22 rfl w2.heap.size i0 Tryd.underlying22 hi0 hz0 hz1 hz2 (some ⟨g, 0, none⟩) (10 + n) c6 (preL (u8 m.kind) body) hpl rfl hO9.out (some ⟨w7.heap.size, 0, none⟩) 4 64 s4 hl4 rfl hD.out ?q1 ?q9 ?_))
  case q1 => omega
  case q9 => omega
  intro A9 c9 w9 hOz hg9 hat9
  have hB29 := below_grew hB28.out hO9.out (Nat.le_refl _) (by omega) hg9
  have hEz := (hB29.block (w.heap.size + 1) hel).trans hE2.out
  have ce : w9.cell? ⟨w.heap.size + 1, 0, none⟩ = some .nilIface := cell_of hEz rfl
  have cf : w9.frozen? ⟨w.heap.size + 1, 0, none⟩ = false := free_of hEz
  replace hEz := Lib.hid hEz
  replace hOz := Lib.hid hOz
  replace hB29 := Lib.hid hB29
  clear hg9 hat9 hO9 hB28 hD
  go_wp2
  refine leaves_cons (f := 36) (args := #[.pointer (some ⟨w.heap.size + 1, 0, none⟩)]) (by simp) (by simp [go_sem]) ?_
  refine (caught_idle ⟨w.heap.size + 1, 0, none⟩ _).mono ?_
  rintro e u' w'' ⟨rfl, rfl, rfl⟩
  have hc : (w9.setCell ⟨w.heap.size + 1, 0, none⟩ .nilIface).cell? ⟨w.heap.size + 1, 0, none⟩ = some .nilIface := cell_of (heap_set hEz.out _) rfl
  have hfin : OwnB (w9.setCell ⟨w.heap.size + 1, 0, none⟩ .nilIface) w.heap.size A9 c9 (frameL (u8 m.kind) body) := by
    rw [hfr.out]
    exact OwnB.lower ((hOz.out).keep (Keep.set (fun k => k = w.heap.size + 1) _ _ _ rfl) (fun a ha => by have := (hOz.out.ge a ha).1; omega)) (by omega)
  have hBf : Below w.heap.size w (w9.setCell ⟨w.heap.size + 1, 0, none⟩ .nilIface) := ((hX2.out.trans (hB29.out.mono (by omega)))).setCell (p := ⟨w.heap.size + 1, 0, none⟩) (Nat.le_succ _) _
  simp [Leaves, settle, results, Tryd.results16, go_sem, hc]
  exact ⟨A9, c9, ⟨rfl, by omega, rfl⟩, hfin, hBf⟩
end Go.Proofs.YtmnmmabhmedioaaDoor
/- Wire: the reader takes a field. -/
namespace Go.Proofs.YtmnmmabhmedioaaDoor
open Go.RowKit
set_option linter.unusedVariables false
set_option linter.unusedSimpArgs false
set_option maxRecDepth 100000

/-- The reader's block. -/
structure Rdr (w : World) (R b o N c at_ : Nat) (rs : Array Value) : Prop where
  hR : w.heap[R]? = some (.cells rs 107 (0, 0))
  r0 : rs[0]? = some (.slice (some ⟨b, o, none⟩) N c)
  r1 : rs[1]? = some (.int .i64 (at_ : Int))

set_option maxHeartbeats 8000000 in
theorem take_ok (R b o N c at_ n : Nat) (rs : Array Value) (w : World) (field from_ : Value) (h : Rdr w R b o N c at_ rs) (hn : at_ + n ≤ N) (hN : N < c) (hc : N ≤ 1099511627776) :
    Calls Tryd.prog 40 #[.pointer (some ⟨R, 0, none⟩), field, from_, .int .i64 (n : Int)] w fun e w' =>
      e = .returned (.slice (some ⟨b, o + at_, none⟩) n (c - at_)) ∧ w'.heap[R]? = some (.cells (rs.setIfInBounds 1 (.int .i64 ((at_ + n : Nat) : Int))) 107 (0, 0)) ∧ Keep (fun k => k = R) w w' := by
  have c0 : w.cell? ⟨R, 0, none⟩ = some (.slice (some ⟨b, o, none⟩) N c) := cell_of h.hR h.r0
  have c1 : w.cell? ⟨R, 1, none⟩ = some (.int .i64 (at_ : Int)) := cell_of h.hR h.r1
  have cf : w.frozen? ⟨R, 1, none⟩ = false := free_of h.hR
  have hw1 : wrap64 ((N : Int) - (at_ : Int)) = (N : Int) - (at_ : Int) := IntWalk.wrap64_in _ ⟨by omega, by omega⟩
  have hle : (n : Int) ≤ (N : Int) - (at_ : Int) := by omega
  have hw2 : wrap64 ((at_ : Int) + (n : Int)) = ((at_ + n : Nat) : Int) := by rw [IntWalk.wrap64_in _ ⟨by omega, by omega⟩]; omega
  have hr0 := Lib.hid h.r0
  have hr1 := Lib.hid h.r1
  replace h := Lib.hid h.hR
  go_enter Tryd.func40, Tryd.ntmps40
  go_wp2_with fail
  go_quiet ((go_at_call 38; exact Calls.quiet_of_same (need_same _ _ _ _)))
  have d0 : (w.drewN nq).cell? ⟨R, 0, none⟩ = some (.slice (some ⟨b, o, none⟩) N c) := c0
  have d1 : (w.drewN nq).cell? ⟨R, 1, none⟩ = some (.int .i64 (at_ : Int)) := c1
  have df : (w.drewN nq).frozen? ⟨R, 1, none⟩ = false := cf
  have dh : Hid ((w.drewN nq).heap[R]? = some (.cells rs 107 (0, 0))) := Lib.hid h.out
  have hK : Hid (Keep (fun k => k = R) w (w.drewN nq)) := Lib.hid (Keep.drewN nq)
  clear c0 c1 cf h hle
  generalize w.drewN nq = w2 at d0 d1 df dh hK ⊢
  go_upto_region 3 with fail
  have hh := heap_set (o := 1) dh.out (.int .i64 ((at_ : Int) + (n : Int)))
  have hK3 := hK.out.trans (Keep.set (fun k => k = R) R 1 (.int .i64 ((at_ : Int) + (n : Int))) rfl)
  have e0 : (w2.setCell ⟨R, 1, none⟩ (.int .i64 ((at_ : Int) + (n : Int)))).cell? ⟨R, 0, none⟩ = some (.slice (some ⟨b, o, none⟩) N c) := cell_of hh (by rw [Array.getElem?_setIfInBounds_ne (by decide)]; exact hr0.out)
  have e1 : (w2.setCell ⟨R, 1, none⟩ (.int .i64 ((at_ : Int) + (n : Int)))).cell? ⟨R, 1, none⟩ = some (.int .i64 ((at_ : Int) + (n : Int))) := cell_of hh (by
    have : 1 < rs.size := by
      rcases Nat.lt_or_ge 1 rs.size with h' | h'
      · exact h'
      · rw [Array.getElem?_eq_none h'] at hr1
        exact absurd hr1.out (by simp)
    rw [Array.getElem?_setIfInBounds_self_of_lt this])
  replace hh := Lib.hid hh
  replace hK3 := Lib.hid hK3
  clear d0 d1 df dh hK hw1 hw2
  generalize w2.setCell ⟨R, 1, none⟩ (.int .i64 ((at_ : Int) + (n : Int))) = w3 at e0 e1 hh hK3 ⊢
  have hw3 : wrap64 ((at_ : Int) + (n : Int) - (n : Int)) = (at_ : Int) := by rw [IntWalk.wrap64_in _ ⟨by omega, by omega⟩]; omega
  have g1 : (at_ : Int) ≤ (at_ : Int) + (n : Int) := by omega
  have g2 : (at_ : Int) + (n : Int) ≤ (c : Int) := by omega
  have g3 : ¬ (c = at_) := by omega
  have g4 : (0 : Int) ≤ (at_ : Int) := by omega
  have g5 : ((at_ : Int) + (n : Int)).toNat - at_ = n := by omega
  go_wp2_with fail
  go_quiet (fail)
  go_wp2_with fail
  go_ret
  exact ⟨rfl, by rw [Int.natCast_add]; exact hh.out, hK3.out.trans (Keep.drewN nq)⟩

/-! ### a block's cells, replaced from an offset on -/
def setRange (cs : Array Value) : Nat → List Value → Array Value
  | _, [] => cs
  | o, v :: r => setRange (cs.setIfInBounds o v) (o + 1) r
theorem setRange_size (cs : Array Value) (o : Nat) (vs : List Value) : (setRange cs o vs).size = cs.size := by
  induction vs generalizing cs o with
  | nil => rfl
  | cons v r ih => rw [setRange, ih]; simp
theorem setRange_out (cs : Array Value) (o : Nat) (vs : List Value) (j : Nat) (h : j < o ∨ o + vs.length ≤ j) : (setRange cs o vs)[j]? = cs[j]? := by
  induction vs generalizing cs o with
  | nil => rfl
  | cons v r ih =>
    simp only [List.length_cons] at h
    rw [setRange, ih _ _ (by omega), Array.getElem?_setIfInBounds_ne (by omega)]
theorem setRange_in (cs : Array Value) (o : Nat) (vs : List Value) (j : Nat) (h : j < vs.length) (hs : o + vs.length ≤ cs.size) : (setRange cs o vs)[o + j]? = vs[j]? := by
  induction vs generalizing cs o j with
  | nil => simp at h
  | cons v r ih =>
    simp only [List.length_cons] at h hs
    cases j with
    | zero =>
      rw [setRange, setRange_out _ _ _ _ (by omega), Nat.add_zero, Array.getElem?_setIfInBounds_self_of_lt (by omega)]
      rfl
    | succ j =>
      rw [setRange, show o + (j + 1) = o + 1 + j from by omega, ih _ _ _ (by omega) (by simp; omega)]
      rfl
theorem setCells_heap (w : World) (b o : Nat) (vs : List Value) {cs : Array Value} {T : TypeId} {fz : Nat × Nat} (h : w.heap[b]? = some (.cells cs T fz)) : (w.setCells b o vs).heap[b]? = some (.cells (setRange cs o vs) T fz) := by
  induction vs generalizing w o cs with
  | nil => exact h
  | cons v r ih => exact ih _ _ (heap_set h v)
theorem setCells_keep (w : World) (b o : Nat) (vs : List Value) : Keep (fun k => k = b) w (w.setCells b o vs) := by
  induction vs generalizing w o with
  | nil => exact Keep.refl _ _
  | cons v r ih => exact (Keep.set (fun k => k = b) b o v rfl).trans (ih _ _)
theorem there_of {w : World} {b : Nat} {cs : Array Value} {T : TypeId} (h : w.heap[b]? = some (.cells cs T (0, 0))) (o n : Nat) (hn : o + n ≤ cs.size) : w.there b o n := fun j hj => by
  refine ⟨?_, free_of h⟩
  have : o + j < cs.size := by omega
  rw [cell_of h (Array.getElem?_eq_getElem this)]
  rfl
theorem Bs.range {w : World} {b o : Nat} {l : List UInt8} (h : Bs w (some ⟨b, o, none⟩) l) : w.rangeAt b o (l.map B8) := fun j v hv => by
  have hj : j < l.length := by
    rcases Nat.lt_or_ge j l.length with h' | h'
    · exact h'
    · rw [List.getElem?_eq_none (by simpa using h')] at hv; cases hv
  rw [h.at j hj]
  rw [List.getElem?_map, List.getElem?_eq_getElem hj] at hv
  simp only [Option.map_some, Option.some.injEq] at hv
  rw [← hv, List.getD_eq_getElem?_getD, List.getElem?_eq_getElem hj]
  rfl
end Go.Proofs.YtmnmmabhmedioaaDoor
/- Wire: a right frame of a refusal is decoded. -/
namespace Go.Proofs.YtmnmmabhmedioaaDoor
open Go.RowKit
set_option linter.unusedVariables false
set_option linter.unusedSimpArgs false
set_option maxRecDepth 100000

theorem frame_head (kd : UInt8) (body : List UInt8) : frameL kd body = headL kd (four body.length) (body ++ (sha (preL kd body)).take 4) := by simp [frameL, preL, headL]
theorem arrAt4 (b o c : Nat) (w : World) : (Instr.arrayAt 104 (.slice (some ⟨b, o, none⟩) 4 c)).run Tryd.prog w = .ok (.pointer (some ⟨b, o, none⟩)) w := by
  simp [Instr.arrayAt, run_underlying Tryd.underlying104]
theorem arrAt32 (b o c : Nat) (w : World) : (Instr.arrayAt 26 (.slice (some ⟨b, o, none⟩) 32 c)).run Tryd.prog w = .ok (.pointer (some ⟨b, o, none⟩)) w := by
  simp [Instr.arrayAt, run_underlying Tryd.underlying26]
theorem size5 (w : World) : (sizeOf 5).run Tryd.prog w = .ok 1 w := by
  obtain ⟨i0, hi0, hz0, hz1, hz2⟩ := info_parts inf5
  simp [sizeOf, typeInfo, hi0, hz1]
theorem eql4 (q0 q1 q2 q3 r0 r1 r2 r3 : UInt8) (w : World) : (binOp .eql 104 (.agg #[B8 q0, B8 q1, B8 q2, B8 q3]) (.agg #[B8 r0, B8 r1, B8 r2, B8 r3])).run Tryd.prog w = .ok (.bool ([q0, q1, q2, q3] == [r0, r1, r2, r3])) w :=
  run_eql_bytes (P := Tryd.prog) w 104 5 4 Tryd.underlying104 Tryd.underlying5 size5 [q0, q1, q2, q3] [r0, r1, r2, r3] rfl rfl
theorem eql4_same (q0 q1 q2 q3 : UInt8) (w : World) : (binOp .eql 104 (.agg #[B8 q0, B8 q1, B8 q2, B8 q3]) (.agg #[B8 q0, B8 q1, B8 q2, B8 q3])).run Tryd.prog w = .ok (.bool true) w := by
  rw [eql4]
  simp
theorem wpList_loadM {P : Program} (w : World) {ops : Array Oper} {rest : List Oper} {op : Oper} {a : Act} {Q : Exit → Act → World → Prop} (hgd : op.guard = none) (ty : TypeId) (x : Operand) (ho : op.op = .load ty x)
    (b o : Nat) (hx : a.eval x = .pointer (some ⟨b, o, none⟩)) (cs : Array Value) (hc : ∀ j v, cs[j]? = some v → w.cell? ⟨b, o + j, none⟩ = some v) (d : TypeDesc)
    (hu : P.underlying ty = some d) (hd : d.isRow = true) (hi : (P.info? ty).map (·.size) = some cs.size)
    (h : wpList P ops Q rest (a.put op.dst (.agg cs)) w) : wpList P ops Q (op :: rest) a w := by
  have h' := wpList_load_mid (P := P) (ops := ops) (rest := rest) (Q := Q) hgd ty x ho b o hx cs.toList d (fun j v hv => hc j v (by simpa using hv)) hu hd (by simpa using hi)
  simp only [Array.toArray_toList] at h'
  exact h' h
theorem sha4 (l : List UInt8) : ((sha l).take 4).length = 4 := by simp [sha_length]
theorem peek50 (b o c : Nat) (body : List UInt8) (w : World) (hl : body.length = 36) (k : Nat) (hk : k ≤ 4) (hc : 50 ≤ c) (hb : Bs w (some ⟨b, o, none⟩) ((frameL 5 body).take (46 + k))) :
    Calls Tryd.prog 37 #[.slice (some ⟨b, o, none⟩) (46 + k) c] w fun e w' => e = .returned (.tuple #[.int .i64 5, .int .i64 50]) ∧ ∃ m, w' = w.drewN m := by
  have e : (frameL 5 body).take (46 + k) = headL 5 (four 36) ((body ++ (sha (preL 5 body)).take 4).take (36 + k)) := by
    rw [frame_head, hl]
    simp only [headL, four, List.cons_append, List.nil_append]
    rw [show 46 + k = (36 + k) + 10 from by omega]
    simp only [List.take_succ_cons]
  rw [e] at hb
  have hr : ((body ++ (sha (preL 5 body)).take 4).take (36 + k)).length = 36 + k := by
    rw [List.length_take, List.length_append, sha4, hl]
    omega
  have h := peek_ok b o c 5 (four 36) ((body ++ (sha (preL 5 body)).take 4).take (36 + k)) w rfl (by decide) (by decide) (by decide) (by omega) (by omega) hb
  rw [hr, show 10 + (36 + k) = 46 + k from by omega] at h
  exact h

theorem results_cell2 {P : Program} {fn : Func} {p1 p2 : Tmp} {t1 t2 : TypeId} (h : fn.results = #[.cell p1 t1, .cell p2 t2]) (tmps : Array Value) (w : World) (a1 a2 : Addr) (v1 v2 : Value)
    (hp1 : tmps.getD p1 undef = .pointer (some a1)) (hp2 : tmps.getD p2 undef = .pointer (some a2)) (h1 : (loadVar t1 a1).run P w = .ok v1 w) (h2 : (loadVar t2 a2).run P w = .ok v2 w) :
    (results fn tmps).run P w = .ok (.tuple #[v1, v2]) w := by
  have hp1' : tmps[p1]?.getD undef = .pointer (some a1) := by simpa using hp1
  have hp2' : tmps[p2]?.getD undef = .pointer (some a2) := by simpa using hp2
  simp [results, h, hp1', hp2', asAddr, h1, h2]
/-- A refusal as it is decoded. -/
def zeros (n : Nat) : List UInt8 := List.replicate n 0
def refuseM (sess : List UInt8) (f t : UInt8) (n : Nat) : Msg := ⟨5, sess, nb f, nb t, ⟨0, zeros 32, zeros 32⟩, [], [], zeros 32, zeros 32, zeros 64, n⟩
theorem zeros_getD (n i : Nat) : (zeros n).getD i 0 = 0 := by
  unfold zeros
  rw [List.getD_eq_getElem?_getD, List.getElem?_replicate]
  split <;> rfl
theorem zrow (o n : Nat) (h : (List.range n).map (fun i => Tryd.zeroCells107[2 + (o + i)]?) = List.replicate n (some (Value.int .u8 0))) (i : Nat) (hi : i < n) : Tryd.zeroCells107[2 + (o + i)]? = some (B8 0) := by
  have h2 := congrArg (fun l => l[i]?) h
  simp only [List.getElem?_map, List.getElem?_range hi, Option.map_some, List.getElem?_replicate, if_pos hi] at h2
  have e : B8 0 = .int .u8 0 := rfl
  rw [e]
  simpa using h2

set_option maxHeartbeats 8000000 in
theorem decode_refuse (b o c : Nat) (sess : List UInt8) (f t : UInt8) (n : Nat) (w : World) (hs : sess.length = 32) (hn1 : 1 ≤ n) (hn2 : n ≤ 65535) (hc : 50 ≤ c) (hlt : b < w.heap.size)
    (hb : Bs w (some ⟨b, o, none⟩) (frameL 5 (sess ++ [f, t] ++ two n))) :
    Calls Tryd.prog 11 #[.slice (some ⟨b, o, none⟩) 50 c] w fun e w' => ∃ cs, e = .returned (.tuple #[.agg cs, .nilIface]) ∧ MsgC cs (refuseM sess f t n) (.slice none 0 0) (.slice none 0 0) ∧ Below w.heap.size w w' := by
  replace hb := Lib.hid hb
  go_enter_defers Tryd.func11, Tryd.ntmps11
  go_upto_region 2 with fail
  have hZ : ((w.alloc (.cells Tryd.zeroCells36 36)).alloc (.cells #[.nilIface] 38)).heap[w.heap.size]? = some (.cells Tryd.zeroCells36 36 (0, 0)) := by
    rw [heap_alloc?, if_neg (by simp)]; exact heap_alloc_new w _
  have hE : ((w.alloc (.cells Tryd.zeroCells36 36)).alloc (.cells #[.nilIface] 38)).heap[w.heap.size + 1]? = some (.cells #[.nilIface] 38 (0, 0)) := by
    rw [heap_alloc?, if_pos (by simp)]
  have hB : Below w.heap.size w ((w.alloc (.cells Tryd.zeroCells36 36)).alloc (.cells #[.nilIface] 38)) := later (boxed _ _) (boxed _ _)
  have hsz : ((w.alloc (.cells Tryd.zeroCells36 36)).alloc (.cells #[.nilIface] 38)).heap.size = w.heap.size + 2 := by simp
  generalize (w.alloc (.cells Tryd.zeroCells36 36)).alloc (.cells #[.nilIface] 38) = w1 at hZ hE hB hsz ⊢
  have hb1 := hb.out.on hB
  have hl36 : (sess ++ [f, t] ++ two n).length = 36 := by simp [hs, two]
  have hfl : (frameL 5 (sess ++ [f, t] ++ two n)).length = 50 := by simp [frameL, preL, four, sha_length, hs, two]
  replace hZ := Lib.hid hZ
  replace hE := Lib.hid hE
  go_wp2_with fail
  refine (peek50 b o c _ w1 hl36 4 (by omega) hc (by rw [List.take_of_length_le (by omega)]; exact hb1)).mono ?_
  rintro e w2 ⟨rfl, md, hw2⟩
  have hb2 : Bs w2 (some ⟨b, o, none⟩) (frameL 5 (sess ++ [f, t] ++ two n)) := by rw [hw2]; exact hb1
  have hB2 : Below w.heap.size w w2 := by rw [hw2]; exact below_drewN hB md
  have hs2 : w2.heap.size = w.heap.size + 2 := by rw [hw2]; exact hsz
  have hZ2 : w2.heap[w.heap.size]? = some (.cells Tryd.zeroCells36 36 (0, 0)) := by rw [hw2]; exact hZ.out
  have hE2 : w2.heap[w.heap.size + 1]? = some (.cells #[.nilIface] 38 (0, 0)) := by rw [hw2]; exact hE.out
  have hbp : Bs w2 (some ⟨b, o, none⟩) (preL 5 (sess ++ [f, t] ++ two n)) := by
    have h := hb2.take 46
    have e : (frameL 5 (sess ++ [f, t] ++ two n)).take 46 = preL 5 (sess ++ [f, t] ++ two n) := by
      rw [frameL, List.take_append_of_le_length (by simp [preL, four, hs, two]), List.take_of_length_le (by simp [preL, four, hs, two])]
    rw [e] at h
    exact h
  have hpl : (preL 5 (sess ++ [f, t] ++ two n)).length = 46 := by simp [preL, four, hs, two]
  replace hZ2 := Lib.hid hZ2
  replace hE2 := Lib.hid hE2
  replace hb2 := Lib.hid hb2
  replace hbp := Lib.hid hbp
  replace hB2 := Lib.hid hB2
  have hc46 : (46 : Int) ≤ (c : Int) := by omega
  have hc50 : (50 : Int) ≤ (c : Int) := by omega
  clear hw2 hZ hE hB hsz hb1 hb
  go_wp2_with fail
  refine (need_same _ _ _ _).mono ?_
  rintro e w' ⟨rfl, rfl⟩
  go_wp2_with fail
  refine (need_same _ _ _ _).mono ?_
  rintro e w2 ⟨rfl, rfl⟩
  go_wp2_with fail
  have hsum := sum1_any b o c (preL 5 (sess ++ [f, t] ++ two n)) w2 (by omega) (by omega) hbp.out (by omega)
  rw [hpl] at hsum
  refine hsum.mono ?_
  rintro e w3 ⟨rfl, hB3⟩
  clear hsum
  rename_i hK
  have hs3 := hB3.size
  have hD := sha_length (preL 5 (sess ++ [f, t] ++ two n))
  have hb3 := hb2.out.on hB3
  have hfx : ∀ i, i < 4 → (frameL 5 (sess ++ [f, t] ++ two n)).getD (46 + i) 0 = (sha (preL 5 (sess ++ [f, t] ++ two n))).getD i 0 := fun i hi => by
    rw [frameL, List.getD_eq_getElem?_getD, List.getElem?_append_right (by omega), hpl, show 46 + i - 46 = i from by omega, ← List.getD_eq_getElem?_getD, getD_take _ hi]
  have hcl := fun i (hi : i < 4) => hb3.at (46 + i) (by rw [hfl]; omega)
  have x0 : w3.cell? ⟨b, o + 46, none⟩ = some (B8 ((sha (preL 5 (sess ++ [f, t] ++ two n))).getD 0 0)) := by rw [← hfx 0 (by omega)]; exact hcl 0 (by omega)
  have x1 : w3.cell? ⟨b, o + 46 + 1, none⟩ = some (B8 ((sha (preL 5 (sess ++ [f, t] ++ two n))).getD 1 0)) := by rw [← hfx 1 (by omega)]; exact hcl 1 (by omega)
  have x2 : w3.cell? ⟨b, o + 46 + 2, none⟩ = some (B8 ((sha (preL 5 (sess ++ [f, t] ++ two n))).getD 2 0)) := by rw [← hfx 2 (by omega)]; exact hcl 2 (by omega)
  have x3 : w3.cell? ⟨b, o + 46 + 3, none⟩ = some (B8 ((sha (preL 5 (sess ++ [f, t] ++ two n))).getD 3 0)) := by rw [← hfx 3 (by omega)]; exact hcl 3 (by omega)
  have hsz : ((sha (preL 5 (sess ++ [f, t] ++ two n))).map B8).toArray.size = 64 := by rw [List.size_toArray, List.length_map, hD]
  have hone : ((sha (preL 5 (sess ++ [f, t] ++ two n))).map B8).toArray.all (·.oneCell') = true := all_oneCell_toArray one_bytes
  have hget : ∀ i, i < 64 → ((sha (preL 5 (sess ++ [f, t] ++ two n))).map B8).toArray[i]? = some (B8 ((sha (preL 5 (sess ++ [f, t] ++ two n))).getD i 0)) := fun i hi => by
    rw [List.getElem?_toArray, List.getElem?_map, List.getD_eq_getElem?_getD, List.getElem?_eq_getElem (show i < (sha (preL 5 (sess ++ [f, t] ++ two n))).length by omega)]
    rfl
  clear hfx hcl hbp hb2 hD
  have hb3 := Lib.hid hb3
  have hZ3 := Lib.hid (heap_on hB3 hZ2.out)
  have hE3 := Lib.hid (heap_on hB3 hE2.out)
  have hB33 := Lib.hid (later' hB2.out hB3)
  clear hZ2 hE2 hB2 hB3
  refine hK _ _ ?_
  clear hK
  generalize ((sha (preL 5 (sess ++ [f, t] ++ two n))).map B8).toArray = D at hsz hone hget ⊢
  generalize (sha (preL 5 (sess ++ [f, t] ++ two n))) = S at hget x0 x1 x2 x3
  have hif : (Tryd.prog.info? 97).map (·.size) = some D.size := by rw [hsz]; kernel_rfl
  refine wpList_value (w' := w3.alloc (.cells z64 97)) rfl (.pointer (some ⟨w3.heap.size, 0, none⟩)) (by kernel_rfl) ?_
  refine wpList_skips (w' := w3.alloc (.cells D 97)) rfl ?_ ?_
  · have h := run_storeAt_new (P := Tryd.prog) w3 97 z64 D hif (by rw [hsz]; rfl) hone
    show (Instr.storeAt 97 (.pointer (some ⟨w3.heap.size, 0, none⟩)) (.agg D) >>= fun _ => pure Next.skip : Sem Next).run Tryd.prog _ = _
    simp only [Sem.run_bind, h, Result.andThen, Sem.run_pure]
  refine wpList_nil ?_
  simp only [Act.put]
  have hDn := heap_alloc_new w3 (.cells D 97)
  have hB34 := boxed w3 (.cells D 97)
  have y0 : (w3.alloc (.cells D 97)).cell? ⟨w3.heap.size, 0, none⟩ = some (B8 (S.getD 0 0)) := cell_of hDn (hget 0 (by omega))
  have y1 : (w3.alloc (.cells D 97)).cell? ⟨w3.heap.size, 1, none⟩ = some (B8 (S.getD 1 0)) := cell_of hDn (hget 1 (by omega))
  have y2 : (w3.alloc (.cells D 97)).cell? ⟨w3.heap.size, 2, none⟩ = some (B8 (S.getD 2 0)) := cell_of hDn (hget 2 (by omega))
  have y3 : (w3.alloc (.cells D 97)).cell? ⟨w3.heap.size, 3, none⟩ = some (B8 (S.getD 3 0)) := cell_of hDn (hget 3 (by omega))
  have x0 := cell_on hB34 x0
  have x1 := cell_on hB34 x1
  have x2 := cell_on hB34 x2
  have x3 := cell_on hB34 x3
  have hb4 := Lib.hid (hb3.out.on hB34)
  have hZ4 := Lib.hid (heap_on hB34 hZ3.out)
  have hE4 := Lib.hid (heap_on hB34 hE3.out)
  have hB44 := Lib.hid (later' hB33.out hB34)
  have hs4 : (w3.alloc (.cells D 97)).heap.size = w3.heap.size + 1 := by simp
  clear hDn hB34 hget hone hif hsz hZ3 hE3 hB33 hb3
  generalize w3.alloc (.cells D 97) = w4 at *
  generalize S.getD 0 0 = q0 at *
  generalize S.getD 1 0 = q1 at *
  generalize S.getD 2 0 = q2 at *
  generalize S.getD 3 0 = q3 at *
  have ha4 := arrAt4
  have he4 := eql4_same q0 q1 q2 q3
  have hc1 : ¬ (c = 46) := by omega
  have hw46 : IntKind.i64.wrap 46 = 46 := rfl
  have hc2 : (4 : Int) ≤ ((c - 46 : Nat) : Int) := by omega
  go_wp2_with fail
  go_quiet ((go_at_call 38; exact Calls.quiet_of_same (need_same _ _ _ _)))
  have hb5 : Hid (Bs (w4.drewN nq) (some ⟨b, o, none⟩) (frameL 5 (sess ++ [f, t] ++ two n))) := Lib.hid hb4.out
  have hZ5 : Hid ((w4.drewN nq).heap[w.heap.size]? = some (.cells Tryd.zeroCells36 36 (0, 0))) := Lib.hid hZ4.out
  have hE5 : Hid ((w4.drewN nq).heap[w.heap.size + 1]? = some (.cells #[.nilIface] 38 (0, 0))) := Lib.hid hE4.out
  have hB55 : Hid (Below w.heap.size w (w4.drewN nq)) := Lib.hid (below_drewN hB44.out nq)
  have hs5 : (w4.drewN nq).heap.size = w3.heap.size + 1 := hs4
  clear hb4 hZ4 hE4 hB44 hs4 x0 x1 x2 x3 y0 y1 y2 y3 he4
  generalize w4.drewN nq = w5 at hb5 hZ5 hE5 hB55 hs5 ⊢
  go_upto_region 8 with fail
  have hR := heap_alloc_new w5 (.cells ((Tryd.zeroCells107.setIfInBounds 0 (.slice (some ⟨b, o, none⟩) 46 c)).setIfInBounds 1 (.int .i64 10)) 107)
  have hzs : Tryd.zeroCells107.size = 233 := by kernel_rfl
  rw [hs5] at hR
  have hb6 := Lib.hid (hb5.out.on (boxed w5 (.cells ((Tryd.zeroCells107.setIfInBounds 0 (.slice (some ⟨b, o, none⟩) 46 c)).setIfInBounds 1 (.int .i64 10)) 107)))
  have hZ6 := Lib.hid (heap_on (boxed w5 (.cells ((Tryd.zeroCells107.setIfInBounds 0 (.slice (some ⟨b, o, none⟩) 46 c)).setIfInBounds 1 (.int .i64 10)) 107)) hZ5.out)
  have hE6 := Lib.hid (heap_on (boxed w5 (.cells ((Tryd.zeroCells107.setIfInBounds 0 (.slice (some ⟨b, o, none⟩) 46 c)).setIfInBounds 1 (.int .i64 10)) 107)) hE5.out)
  have hB6 := Lib.hid (later' hB55.out (boxed w5 (.cells ((Tryd.zeroCells107.setIfInBounds 0 (.slice (some ⟨b, o, none⟩) 46 c)).setIfInBounds 1 (.int .i64 10)) 107)))
  have hs6 : (w5.alloc (.cells ((Tryd.zeroCells107.setIfInBounds 0 (.slice (some ⟨b, o, none⟩) 46 c)).setIfInBounds 1 (.int .i64 10)) 107)).heap.size = w3.heap.size + 2 := by simp [hs5]
  clear hb5 hZ5 hE5 hB55
  generalize w5.alloc (.cells ((Tryd.zeroCells107.setIfInBounds 0 (.slice (some ⟨b, o, none⟩) 46 c)).setIfInBounds 1 (.int .i64 10)) 107) = w6 at hR hb6 hZ6 hE6 hB6 hs6 ⊢
  have hRl : w.heap.size + 2 ≤ w3.heap.size + 1 := by omega
  generalize hRe : w3.heap.size + 1 = R at hR hRl ⊢
  obtain ⟨rs, hrs⟩ : ∃ rs, rs = (Tryd.zeroCells107.setIfInBounds 0 (.slice (some ⟨b, o, none⟩) 46 c)).setIfInBounds 1 (.int .i64 10) := ⟨_, rfl⟩
  rw [← hrs] at hR
  have r0 : rs[0]? = some (.slice (some ⟨b, o, none⟩) 46 c) := by
    rw [hrs, Array.getElem?_setIfInBounds_ne (by decide), Array.getElem?_setIfInBounds_self_of_lt (by omega)]
  have r1 : rs[1]? = some (.int .i64 10) := by
    rw [hrs, Array.getElem?_setIfInBounds_self_of_lt (by simp [hzs])]
  have rz : ∀ j, 2 ≤ j → rs[j]? = Tryd.zeroCells107[j]? := fun j hj => by
    rw [hrs, Array.getElem?_setIfInBounds_ne (by omega), Array.getElem?_setIfInBounds_ne (by omega)]
  have rsz : rs.size = 233 := by rw [hrs]; simp [hzs]
  clear hrs hzs
  have rz2 : w6.cell? ⟨R, 2, none⟩ = some (.int .i64 0) := cell_of hR (by rw [rz 2 (by omega)]; kernel_rfl)
  have rf2 : w6.frozen? ⟨R, 2, none⟩ = false := free_of hR
  replace rz := Lib.hid rz
  replace hR := Lib.hid hR
  go_upto_region 9 with fail
  -- the kind is written
  have hR7 := heap_set (o := 2) hR.out (.int .i64 5)
  have hK7 : Keep (fun k => k = R) w6 (w6.setCell ⟨R, 2, none⟩ (.int .i64 5)) := Keep.set (fun k => k = R) R 2 _ rfl
  have hbR : ∀ a : Addr, (some ⟨b, o, none⟩ : Option Addr) = some a → ¬ a.block = R := fun a ha => by cases ha; show ¬ b = R; omega
  have hb7 := Lib.hid (hb6.out.keep hK7 hbR)
  generalize w6.setCell ⟨R, 2, none⟩ (.int .i64 5) = w7 at hR7 hK7 hb7 ⊢
  obtain ⟨rs7, hrs7⟩ : ∃ x, x = rs.setIfInBounds 2 (.int .i64 5) := ⟨_, rfl⟩
  rw [← hrs7] at hR7
  have a0 : rs7[0]? = some (.slice (some ⟨b, o, none⟩) 46 c) := by rw [hrs7, Array.getElem?_setIfInBounds_ne (by decide)]; exact r0
  have a1 : rs7[1]? = some (.int .i64 10) := by rw [hrs7, Array.getElem?_setIfInBounds_ne (by decide)]; exact r1
  have a2 : rs7[2]? = some (.int .i64 5) := by rw [hrs7, Array.getElem?_setIfInBounds_self_of_lt (by omega)]
  have az : Hid (∀ j, 3 ≤ j → rs7[j]? = Tryd.zeroCells107[j]?) := Lib.hid fun j hj => by rw [hrs7, Array.getElem?_setIfInBounds_ne (by omega)]; exact rz.out j (by omega)
  have asz : rs7.size = 233 := by rw [hrs7]; simp [rsz]
  have l1 : w7.cell? ⟨R, 1, none⟩ = some (.int .i64 10) := cell_of hR7 a1
  replace hR7 := Lib.hid hR7
  replace hK7 := Lib.hid hK7
  clear hrs7 r0 r1 rz2 rf2 hR rz rsz
  -- the session
  go_wp2_with fail
  refine (take_ok R b o 46 c 10 32 rs7 w7 _ _ ⟨hR7.out, a0, a1⟩ (by omega) (by omega) (by omega)).mono ?_
  rintro e w8 ⟨rfl, hR8, hK8⟩
  rename_i hK
  have hK68 := Lib.hid (hK7.out.trans hK8)
  have hb8 := hb7.out.keep hK8 hbR
  have hss : Bs w8 (some ⟨b, o + 10, none⟩) sess := by
    have h := (hb8.drop 10).take 32
    have e : ((frameL 5 (sess ++ [f, t] ++ two n)).drop 10).take 32 = sess := by
      rw [frame_head, hl36]
      show List.take 32 ((sess ++ [f, t] ++ two n) ++ _) = sess
      rw [List.append_assoc, List.append_assoc, List.take_append_of_le_length (by omega), List.take_of_length_le (by omega)]
    rw [e] at h
    exact h
  refine hK _ _ ?_
  clear hK
  refine wpList_value (w' := w8) rfl (.pointer (some ⟨b, o + 10, none⟩)) (by
    show (Instr.arrayAt 26 (.slice (some ⟨b, o + 10, none⟩) 32 (c - 10)) >>= fun v => pure (Next.value v) : Sem Next).run Tryd.prog w8 = _
    simp only [Sem.run_bind, arrAt32, Result.andThen, Sem.run_pure]) ?_
  have hif : (Tryd.prog.info? 26).map (·.size) = some (sess.map B8).length := by rw [List.length_map, hs]; kernel_rfl
  refine wpList_load_mid rfl _ _ rfl b (o + 10) rfl (sess.map B8) _ hss.range Tryd.underlying26 rfl hif ?_
  have hif2 : (Tryd.prog.info? 26).map (·.size) = some (sess.map B8).toArray.size := by rw [List.size_toArray]; exact hif
  have hone : (sess.map B8).toArray.all (·.oneCell') = true := all_oneCell_toArray one_bytes
  have hsl : (sess.map B8).toArray.toList = sess.map B8 := rfl
  have hssz : (sess.map B8).toArray.size = 32 := by simp [hs]
  generalize (sess.map B8).toArray = SA at hif2 hone hsl hssz ⊢
  have hth := there_of hR8 3 SA.size (by simp [asz, hssz])
  replace hb8 := Lib.hid hb8
  clear hss hif l1
  go_upto_region 10 with (refine wpList_store_mid rfl _ _ _ rfl R 3 SA rfl rfl hth hif2 hone ?_)
  try rw [hsl]
  have hR9 := setCells_heap w8 R 3 (sess.map B8) hR8
  have hK9 := hK68.out.trans (setCells_keep w8 R 3 (sess.map B8))
  have hb9 := Lib.hid (hb8.out.keep (setCells_keep w8 R 3 (sess.map B8)) hbR)
  generalize w8.setCells R 3 (sess.map B8) = w9 at hR9 hK9 hb9 ⊢
  obtain ⟨rs9, hrs9⟩ : ∃ x, x = setRange (rs7.setIfInBounds 1 (.int .i64 ((10 + 32 : Nat) : Int))) 3 (sess.map B8) := ⟨_, rfl⟩
  rw [← hrs9] at hR9
  have hml : (sess.map B8).length = 32 := by simp [hs]
  have b0 : rs9[0]? = some (.slice (some ⟨b, o, none⟩) 46 c) := by rw [hrs9, setRange_out _ _ _ _ (by omega), Array.getElem?_setIfInBounds_ne (by decide)]; exact a0
  have b1 : rs9[1]? = some (.int .i64 42) := by rw [hrs9, setRange_out _ _ _ _ (by omega), Array.getElem?_setIfInBounds_self_of_lt (by omega)]; rfl
  have b2 : rs9[2]? = some (.int .i64 5) := by rw [hrs9, setRange_out _ _ _ _ (by omega), Array.getElem?_setIfInBounds_ne (by decide)]; exact a2
  have bs : Hid (∀ j, j < 32 → rs9[3 + j]? = some (B8 (sess.getD j 0))) := Lib.hid fun j hj => by
    rw [hrs9, setRange_in _ _ _ _ (by omega) (by simp [asz, hml]), List.getElem?_map, List.getD_eq_getElem?_getD, List.getElem?_eq_getElem (by omega)]
    rfl
  have bz : Hid (∀ j, 35 ≤ j → rs9[j]? = Tryd.zeroCells107[j]?) := Lib.hid fun j hj => by
    rw [hrs9, setRange_out _ _ _ _ (by omega), Array.getElem?_setIfInBounds_ne (by omega)]; exact az.out j (by omega)
  have bsz : rs9.size = 233 := by rw [hrs9, setRange_size]; simp [asz]
  have l1 : w9.cell? ⟨R, 1, none⟩ = some (.int .i64 42) := cell_of hR9 b1
  have l35 : w9.cell? ⟨R, 35, none⟩ = some (.int .i64 0) := cell_of hR9 (by rw [bz.out 35 (by omega)]; kernel_rfl)
  have hx42 := hb9.out.at 42 (by rw [hfl]; omega)
  replace hR9 := Lib.hid hR9
  replace hK9 := Lib.hid hK9
  clear hrs9 hR8 hK8 hK68 hb8 hth hif2 hone hsl hssz a0 a1 a2 az asz hR7 hK7 hb7
  -- from
  have hfe : (frameL 5 (sess ++ [f, t] ++ two n)).getD 42 0 = f ∧ (frameL 5 (sess ++ [f, t] ++ two n)).getD 43 0 = t := by
    rw [frame_head, hl36]
    have e : headL 5 (four 36) ((sess ++ [f, t] ++ two n) ++ (sha (preL 5 (sess ++ [f, t] ++ two n))).take 4) = ([82, 73, 77, 69, 1, 5] ++ four 36 ++ sess) ++ (f :: t :: (two n ++ (sha (preL 5 (sess ++ [f, t] ++ two n))).take 4)) := by simp [headL]
    have e2 : ([82, 73, 77, 69, 1, 5] ++ four 36 ++ sess).length = 42 := by simp [four, hs]
    rw [e]
    constructor
    · rw [List.getD_eq_getElem?_getD, List.getElem?_append_right (by omega), e2]
      rfl
    · rw [List.getD_eq_getElem?_getD, List.getElem?_append_right (by omega), e2]
      rfl
  rw [hfe.1] at hx42
  go_wp2_with fail
  refine (take_ok R b o 46 c 42 1 rs9 w9 _ _ ⟨hR9.out, b0, b1⟩ (by omega) (by omega) (by omega)).mono ?_
  rintro e w10 ⟨rfl, hR10, hK10⟩
  have m42 : w10.cell? ⟨b, o + 42, none⟩ = some (B8 f) := hK10.cell (by show ¬ b = R; omega) hx42
  have m35 : w10.cell? ⟨R, 35, none⟩ = some (.int .i64 0) := cell_of hR10 (by rw [Array.getElem?_setIfInBounds_ne (by decide), bz.out 35 (by omega)]; kernel_rfl)
  have mf : w10.frozen? ⟨R, 35, none⟩ = false := free_of hR10
  have hwf : IntKind.i64.wrap (nb f) = nb f := by have := nb_bd f; rw [IntKind.wrap_i64]; omega
  have hwf2 : wrap64 (nb f) = nb f := by have := nb_bd f; exact IntWalk.wrap64_in _ ⟨by omega, by omega⟩
  have hK610 := Lib.hid (hK9.out.trans hK10)
  have hb10 := Lib.hid (hb9.out.keep hK10 hbR)
  replace hR10 := Lib.hid hR10
  clear hx42 l1 l35 hK10 hfe
  go_upto_region 11 with fail
  have hR11 := heap_set (o := 35) hR10.out (.int .i64 (nb f))
  have hK11 := hK610.out.trans (Keep.set (fun k => k = R) R 35 (.int .i64 (nb f)) rfl)
  have hb11 := Lib.hid (hb10.out.keep (Keep.set (fun k => k = R) R 35 (.int .i64 (nb f)) rfl) hbR)
  generalize w10.setCell ⟨R, 35, none⟩ (.int .i64 (nb f)) = w11 at hR11 hK11 hb11 ⊢
  obtain ⟨rs11, hrs11⟩ : ∃ x, x = (rs9.setIfInBounds 1 (.int .i64 ((42 + 1 : Nat) : Int))).setIfInBounds 35 (.int .i64 (nb f)) := ⟨_, rfl⟩
  rw [← hrs11] at hR11
  have c0 : rs11[0]? = some (.slice (some ⟨b, o, none⟩) 46 c) := by rw [hrs11, Array.getElem?_setIfInBounds_ne (by decide), Array.getElem?_setIfInBounds_ne (by decide)]; exact b0
  have c1 : rs11[1]? = some (.int .i64 43) := by rw [hrs11, Array.getElem?_setIfInBounds_ne (by decide), Array.getElem?_setIfInBounds_self_of_lt (by omega)]; rfl
  have c2 : rs11[2]? = some (.int .i64 5) := by rw [hrs11, Array.getElem?_setIfInBounds_ne (by decide), Array.getElem?_setIfInBounds_ne (by decide)]; exact b2
  have cs3 : Hid (∀ j, j < 32 → rs11[3 + j]? = some (B8 (sess.getD j 0))) := Lib.hid fun j hj => by
    rw [hrs11, Array.getElem?_setIfInBounds_ne (by omega), Array.getElem?_setIfInBounds_ne (by omega)]; exact bs.out j hj
  have c35 : rs11[35]? = some (.int .i64 (nb f)) := by rw [hrs11, Array.getElem?_setIfInBounds_self_of_lt (by simp [bsz])]
  have cz : Hid (∀ j, 36 ≤ j → rs11[j]? = Tryd.zeroCells107[j]?) := Lib.hid fun j hj => by
    rw [hrs11, Array.getElem?_setIfInBounds_ne (by omega), Array.getElem?_setIfInBounds_ne (by omega)]; exact bz.out j (by omega)
  have csz : rs11.size = 233 := by rw [hrs11]; simp [bsz]
  have l1 : w11.cell? ⟨R, 1, none⟩ = some (.int .i64 43) := cell_of hR11 c1
  have hx43 := hb11.out.at 43 (by rw [hfl]; omega)
  replace hR11 := Lib.hid hR11
  replace hK11 := Lib.hid hK11
  clear hrs11 hR10 hK610 hb10 m42 m35 mf hwf hwf2 b0 b1 b2 bs bz bsz hR9 hK9 hb9
  -- to
  have hfe : (frameL 5 (sess ++ [f, t] ++ two n)).getD 43 0 = t := by
    rw [frame_head, hl36]
    have e : headL 5 (four 36) ((sess ++ [f, t] ++ two n) ++ (sha (preL 5 (sess ++ [f, t] ++ two n))).take 4) = ([82, 73, 77, 69, 1, 5] ++ four 36 ++ sess) ++ (f :: t :: (two n ++ (sha (preL 5 (sess ++ [f, t] ++ two n))).take 4)) := by simp [headL]
    have e2 : ([82, 73, 77, 69, 1, 5] ++ four 36 ++ sess).length = 42 := by simp [four, hs]
    rw [e, List.getD_eq_getElem?_getD, List.getElem?_append_right (by omega), e2]
    rfl
  rw [hfe] at hx43
  go_wp2_with fail
  refine (take_ok R b o 46 c 43 1 rs11 w11 _ _ ⟨hR11.out, c0, c1⟩ (by omega) (by omega) (by omega)).mono ?_
  rintro e w12 ⟨rfl, hR12, hK12⟩
  have m43 : w12.cell? ⟨b, o + 43, none⟩ = some (B8 t) := hK12.cell (by show ¬ b = R; omega) hx43
  have m36 : w12.cell? ⟨R, 36, none⟩ = some (.int .i64 0) := cell_of hR12 (by rw [Array.getElem?_setIfInBounds_ne (by decide), cz.out 36 (by omega)]; kernel_rfl)
  have mf : w12.frozen? ⟨R, 36, none⟩ = false := free_of hR12
  have hwf : IntKind.i64.wrap (nb t) = nb t := by have := nb_bd t; rw [IntKind.wrap_i64]; omega
  have hwf2 : wrap64 (nb t) = nb t := by have := nb_bd t; exact IntWalk.wrap64_in _ ⟨by omega, by omega⟩
  have hK612 := Lib.hid (hK11.out.trans hK12)
  have hb12 := Lib.hid (hb11.out.keep hK12 hbR)
  replace hR12 := Lib.hid hR12
  clear hx43 l1 hK12 hfe
  go_upto_region 12 with fail
  have hR13 := heap_set (o := 36) hR12.out (.int .i64 (nb t))
  have hK13 := hK612.out.trans (Keep.set (fun k => k = R) R 36 (.int .i64 (nb t)) rfl)
  have hb13 := Lib.hid (hb12.out.keep (Keep.set (fun k => k = R) R 36 (.int .i64 (nb t)) rfl) hbR)
  generalize w12.setCell ⟨R, 36, none⟩ (.int .i64 (nb t)) = w13 at hR13 hK13 hb13 ⊢
  obtain ⟨rs13, hrs13⟩ : ∃ x, x = (rs11.setIfInBounds 1 (.int .i64 ((43 + 1 : Nat) : Int))).setIfInBounds 36 (.int .i64 (nb t)) := ⟨_, rfl⟩
  rw [← hrs13] at hR13
  have d0 : rs13[0]? = some (.slice (some ⟨b, o, none⟩) 46 c) := by rw [hrs13, Array.getElem?_setIfInBounds_ne (by decide), Array.getElem?_setIfInBounds_ne (by decide)]; exact c0
  have d1 : rs13[1]? = some (.int .i64 44) := by rw [hrs13, Array.getElem?_setIfInBounds_ne (by decide), Array.getElem?_setIfInBounds_self_of_lt (by omega)]; rfl
  have d2 : rs13[2]? = some (.int .i64 5) := by rw [hrs13, Array.getElem?_setIfInBounds_ne (by decide), Array.getElem?_setIfInBounds_ne (by decide)]; exact c2
  have ds3 : Hid (∀ j, j < 32 → rs13[3 + j]? = some (B8 (sess.getD j 0))) := Lib.hid fun j hj => by
    rw [hrs13, Array.getElem?_setIfInBounds_ne (by omega), Array.getElem?_setIfInBounds_ne (by omega)]; exact cs3.out j hj
  have d35 : rs13[35]? = some (.int .i64 (nb f)) := by rw [hrs13, Array.getElem?_setIfInBounds_ne (by decide), Array.getElem?_setIfInBounds_ne (by decide)]; exact c35
  have d36 : rs13[36]? = some (.int .i64 (nb t)) := by rw [hrs13, Array.getElem?_setIfInBounds_self_of_lt (by simp [csz])]
  have dz : Hid (∀ j, 37 ≤ j → rs13[j]? = Tryd.zeroCells107[j]?) := Lib.hid fun j hj => by
    rw [hrs13, Array.getElem?_setIfInBounds_ne (by omega), Array.getElem?_setIfInBounds_ne (by omega)]; exact cz.out j (by omega)
  have dsz : rs13.size = 233 := by rw [hrs13]; simp [csz]
  have l1 : w13.cell? ⟨R, 1, none⟩ = some (.int .i64 44) := cell_of hR13 d1
  replace hR13 := Lib.hid hR13
  replace hK13 := Lib.hid hK13
  clear hrs13 hR12 hK612 hb12 m43 m36 mf hwf hwf2 c0 c1 c2 cs3 cz csz c35 hR11 hK11 hb11
  -- the code
  go_wp2_with fail
  refine (take_ok R b o 46 c 44 2 rs13 w13 _ _ ⟨hR13.out, d0, d1⟩ (by omega) (by omega) (by omega)).mono ?_
  rintro e w14 ⟨rfl, hR14, hK14⟩
  have hcode : Bs w14 (some ⟨b, o + 44, none⟩) (two n) := by
    have h := ((hb13.out.keep hK14 hbR).drop 44).take 2
    have e : ((frameL 5 (sess ++ [f, t] ++ two n)).drop 44).take 2 = two n := by
      rw [frame_head, hl36]
      have e : headL 5 (four 36) ((sess ++ [f, t] ++ two n) ++ (sha (preL 5 (sess ++ [f, t] ++ two n))).take 4) = ([82, 73, 77, 69, 1, 5] ++ four 36 ++ sess ++ [f, t]) ++ (two n ++ (sha (preL 5 (sess ++ [f, t] ++ two n))).take 4) := by simp [headL]
      have e2 : ([82, 73, 77, 69, 1, 5] ++ four 36 ++ sess ++ [f, t]).length = 44 := by simp [four, hs]
      rw [e, List.drop_append, List.drop_of_length_le (by omega), e2]
      rfl
    rw [e] at h
    exact h
  have hn14 := numL_two n (by omega)
  have n232 : w14.cell? ⟨R, 232, none⟩ = some (.int .i64 0) := cell_of hR14 (by rw [Array.getElem?_setIfInBounds_ne (by decide), dz.out 232 (by omega)]; kernel_rfl)
  have nf : w14.frozen? ⟨R, 232, none⟩ = false := free_of hR14
  have hK614 := Lib.hid (hK13.out.trans hK14)
  have hb14 := Lib.hid (hb13.out.keep hK14 hbR)
  replace hR14 := Lib.hid hR14
  clear l1 hK14
  go_wp2_with fail
  have hnum := numberOf_any (some ⟨b, o + 44, none⟩) (c - 44) (two n) w14 hcode (by simp [two])
  rw [hn14] at hnum
  refine Calls.mono (show Calls Tryd.prog 43 #[.slice (some ⟨b, o + 44, none⟩) 2 (c - 44)] w14 _ from hnum) ?_
  rintro e w15 ⟨rfl, rfl⟩
  clear hnum hcode
  go_upto_region 24 with fail
  have hR15 := heap_set (o := 232) hR14.out (.int .i64 (n : Int))
  have hK15 := hK614.out.trans (Keep.set (fun k => k = R) R 232 (.int .i64 (n : Int)) rfl)
  generalize w14.setCell ⟨R, 232, none⟩ (.int .i64 (n : Int)) = w15 at hR15 hK15 ⊢
  obtain ⟨rsz, hrsz⟩ : ∃ x, x = (rs13.setIfInBounds 1 (.int .i64 ((44 + 2 : Nat) : Int))).setIfInBounds 232 (.int .i64 (n : Int)) := ⟨_, rfl⟩
  rw [← hrsz] at hR15
  have f0 : rsz[0]? = some (.slice (some ⟨b, o, none⟩) 46 c) := by rw [hrsz, Array.getElem?_setIfInBounds_ne (by decide), Array.getElem?_setIfInBounds_ne (by decide)]; exact d0
  have f1 : rsz[1]? = some (.int .i64 46) := by rw [hrsz, Array.getElem?_setIfInBounds_ne (by decide), Array.getElem?_setIfInBounds_self_of_lt (by omega)]; rfl
  have f2 : rsz[2]? = some (.int .i64 5) := by rw [hrsz, Array.getElem?_setIfInBounds_ne (by decide), Array.getElem?_setIfInBounds_ne (by decide)]; exact d2
  have fs3 : Hid (∀ j, j < 32 → rsz[3 + j]? = some (B8 (sess.getD j 0))) := Lib.hid fun j hj => by
    rw [hrsz, Array.getElem?_setIfInBounds_ne (by omega), Array.getElem?_setIfInBounds_ne (by omega)]; exact ds3.out j hj
  have f35 : rsz[35]? = some (.int .i64 (nb f)) := by rw [hrsz, Array.getElem?_setIfInBounds_ne (by decide), Array.getElem?_setIfInBounds_ne (by decide)]; exact d35
  have f36 : rsz[36]? = some (.int .i64 (nb t)) := by rw [hrsz, Array.getElem?_setIfInBounds_ne (by decide), Array.getElem?_setIfInBounds_ne (by decide)]; exact d36
  have f232 : rsz[232]? = some (.int .i64 (n : Int)) := by rw [hrsz, Array.getElem?_setIfInBounds_self_of_lt (by simp [dsz])]
  have fz : Hid (∀ j, 37 ≤ j → j ≠ 232 → rsz[j]? = Tryd.zeroCells107[j]?) := Lib.hid fun j hj hj2 => by
    rw [hrsz, Array.getElem?_setIfInBounds_ne (by omega), Array.getElem?_setIfInBounds_ne (by omega)]; exact dz.out j (by omega)
  have fsz : rsz.size = 233 := by rw [hrsz]; simp [dsz]
  have p0 : w15.cell? ⟨R, 0, none⟩ = some (.slice (some ⟨b, o, none⟩) 46 c) := cell_of hR15 f0
  have p1 : w15.cell? ⟨R, 1, none⟩ = some (.int .i64 46) := cell_of hR15 f1
  have p232 : w15.cell? ⟨R, 232, none⟩ = some (.int .i64 (n : Int)) := cell_of hR15 f232
  have hne : ¬ ((n : Int) = 0) := by omega
  replace hR15 := Lib.hid hR15
  replace hK15 := Lib.hid hK15
  clear hrsz hR14 hK614 hb14 n232 nf d0 d1 d2 ds3 dz dsz d35 d36 hR13 hK13 hb13
  go_wp2_with fail
  rw [show ((n : Int) != 0) = true from by simp; omega]
  refine (need_same _ _ _ _).mono ?_
  rintro e w16 ⟨rfl, rfl⟩
  go_wp2_with fail
  go_quiet ((go_at_call 38; exact Calls.quiet_of_same (need_same _ _ _ _)))
  have hRq : (w16.drewN nq).heap[R]? = some (.cells rsz 107 (0, 0)) := hR15.out
  have hKq := hK15.out.trans (Keep.drewN (D := fun k => k = R) (w := w16) nq)
  clear p0 p1 p232 hR15 hK15
  generalize w16.drewN nq = w17 at hRq hKq ⊢
  have hZq := hKq.heap (show ¬ w.heap.size = R by omega) hZ6.out
  have hEq := hKq.heap (show ¬ w.heap.size + 1 = R by omega) hE6.out
  have hBq := below_keep hB6.out hKq (fun i e => by omega) hB6.out.size
  go_upto_region 28 with fail
  obtain ⟨CS, hsz, hCS⟩ : ∃ CS : Array Value, CS.size = 231 ∧ ∀ j, CS[j]? = rsz[2 + j]? := ⟨(rsz.toList.drop 2).toArray, by simp [fsz], fun j => by simp [List.getElem?_drop]⟩
  have hrng : ∀ j v, CS[j]? = some v → w17.cell? ⟨R, 2 + j, none⟩ = some v := fun j v h => cell_of hRq (by rw [← hCS]; exact h)
  have hif : (Tryd.prog.info? 36).map (·.size) = some CS.size := by rw [hsz]; kernel_rfl
  have hz36 : Tryd.zeroCells36.size = CS.size := by rw [hsz]; kernel_rfl
  have hz1 : Tryd.zeroCells107.toList.all (·.oneCell') = true := by kernel_rfl
  have hone : CS.all (·.oneCell') = true := by
    refine Array.all_eq_true_iff_forall_mem.2 fun v hv => ?_
    obtain ⟨j, hj⟩ := Array.mem_iff_getElem?.1 hv
    rw [hCS] at hj
    by_cases e0 : j = 0
    · subst e0; rw [f2] at hj; cases hj; rfl
    by_cases e1 : j < 33
    · have h := fs3.out (j - 1) (by omega)
      rw [show 3 + (j - 1) = 2 + j from by omega, hj] at h
      cases h; rfl
    by_cases e2 : j = 33
    · subst e2; rw [f35] at hj; cases hj; rfl
    by_cases e3 : j = 34
    · subst e3; rw [f36] at hj; cases hj; rfl
    by_cases e4 : j = 230
    · subst e4; rw [f232] at hj; cases hj; rfl
    · rw [fz.out (2 + j) (by omega) (by omega)] at hj
      have hm : v ∈ Tryd.zeroCells107.toList := by
        rw [Array.mem_toList_iff]
        exact Array.mem_iff_getElem?.2 ⟨_, hj⟩
      exact List.all_eq_true.1 hz1 v hm
  have ge0 : w17.cell? ⟨w.heap.size + 1, 0, none⟩ = some .nilIface := cell_of hEq rfl
  have hsW := setRow_keep w17 w.heap.size CS
  have hE18 := hsW.heap (show ¬ w.heap.size + 1 = w.heap.size by omega) hEq
  have hD18 := setRow_heap w17 w.heap.size _ CS _ _ hZq
  have hB18 := below_keep hBq hsW (fun i e => by omega) hBq.size
  have ge1 : (w17.setRow w.heap.size CS).cell? ⟨w.heap.size + 1, 0, none⟩ = some .nilIface := cell_of hE18 rfl
  have gf1 : (w17.setRow w.heap.size CS).frozen? ⟨w.heap.size + 1, 0, none⟩ = false := free_of hE18
  replace hrng := Lib.hid hrng
  replace hCS := Lib.hid hCS
  replace hD18 := Lib.hid hD18
  replace hB18 := Lib.hid hB18
  replace hE18 := Lib.hid hE18
  replace hZq := Lib.hid hZq
  clear hz1 hEq hBq hKq hRq ge0 hsW
  go_wp2_with (first | (refine wpList_loadM _ rfl _ _ rfl R 2 rfl CS hrng.out _ Tryd.underlying36 rfl hif ?_) | (refine wpList_storeW _ rfl _ _ _ rfl w.heap.size CS rfl rfl _ _ hZq.out hif hz36 hone ?_))
  have hRow := hD18.out
  have hDz := (Keep.set (w := w17.setRow w.heap.size CS) (fun k => k = w.heap.size + 1) (w.heap.size + 1) 0 .nilIface rfl).heap (show ¬ w.heap.size = w.heap.size + 1 by omega) hD18.out
  have hEz : ((w17.setRow w.heap.size CS).setCell ⟨w.heap.size + 1, 0, none⟩ .nilIface).cell? ⟨w.heap.size + 1, 0, none⟩ = some .nilIface := cell_of (heap_set hE18.out _) rfl
  have hBz := hB18.out.setCell (p := ⟨w.heap.size + 1, 0, none⟩) (Nat.le_succ _) .nilIface
  generalize (w17.setRow w.heap.size CS).setCell ⟨w.heap.size + 1, 0, none⟩ .nilIface = wf at hDz hEz hBz ⊢
  have hL := run_loadVar_row (P := Tryd.prog) wf w.heap.size 36 36 CS (0, 0) _ hDz Tryd.underlying36 rfl hif
  have hL2 : (loadVar 38 ⟨w.heap.size + 1, 0, none⟩).run Tryd.prog wf = .ok .nilIface wf := by simp [go_sem, hEz]
  refine leaves_cons (f := 36) (args := #[.pointer (some ⟨w.heap.size + 1, 0, none⟩)]) (by simp) (by simp [go_sem]) ?_
  refine (caught_idle ⟨w.heap.size + 1, 0, none⟩ _).mono ?_
  rintro e u' w'' ⟨rfl, rfl, rfl⟩
  have hM : MsgC CS (refuseM sess f t n) (.slice none 0 0) (.slice none 0 0) := by
    have hc := hCS.out
    have z : ∀ j, 35 ≤ j → j ≠ 230 → CS[j]? = Tryd.zeroCells107[2 + j]? := fun j h1 h2 => by rw [hc, fz.out _ (by omega) (by omega)]
    refine ⟨hsz, by rw [hc]; exact f2, ⟨hs, fun i hi => ?_⟩, by rw [hc]; exact f35, by rw [hc]; exact f36, ?_, ⟨by simp [refuseM, zeros], fun i hi => ?_⟩, ⟨by simp [refuseM, zeros], fun i hi => ?_⟩, ?_, ?_, ⟨by simp [refuseM, zeros], fun i hi => ?_⟩, ⟨by simp [refuseM, zeros], fun i hi => ?_⟩, ⟨by simp [refuseM, zeros], fun i hi => ?_⟩, by rw [hc]; exact f232⟩
    · rw [hc, show 2 + (1 + i) = 3 + i from by omega]; exact fs3.out i hi
    · rw [z 35 (by omega) (by omega)]; kernel_rfl
    · rw [z _ (by omega) (by omega), show (refuseM sess f t n).pair.hid = zeros 32 from rfl, zeros_getD]; exact zrow 36 32 (by kernel_rfl) i hi
    · rw [z _ (by omega) (by omega), show (refuseM sess f t n).pair.bnd = zeros 32 from rfl, zeros_getD]; exact zrow 68 32 (by kernel_rfl) i hi
    · rw [z 100 (by omega) (by omega)]; kernel_rfl
    · rw [z 101 (by omega) (by omega)]; kernel_rfl
    · rw [z _ (by omega) (by omega), show (refuseM sess f t n).bind_ = zeros 32 from rfl, zeros_getD]; exact zrow 102 32 (by kernel_rfl) i hi
    · rw [z _ (by omega) (by omega), show (refuseM sess f t n).share = zeros 32 from rfl, zeros_getD]; exact zrow 134 32 (by kernel_rfl) i hi
    · rw [z _ (by omega) (by omega), show (refuseM sess f t n).sig = zeros 64 from rfl, zeros_getD]; exact zrow 166 64 (by kernel_rfl) i hi
  replace hM := Lib.hid hM
  clear hRow hDz
  exact ⟨_, results_cell2 rfl _ _ ⟨w.heap.size, 0, none⟩ ⟨w.heap.size + 1, 0, none⟩ (.agg CS) .nilIface rfl rfl hL hL2, CS, rfl, hM.out, hBz⟩
end Go.Proofs.YtmnmmabhmedioaaDoor
