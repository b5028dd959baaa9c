/- SHA-512: Join and Sum of bytes. -/
import Derived.Test.YtmnmmabhmedioaaDoorShaG
namespace Go.Proofs.YtmnmmabhmedioaaDoor
open Go.RowKit
set_option linter.unusedVariables false
set_option linter.unusedSimpArgs false

/-- A part: where it lies, its capacity, its bytes. -/
structure Part where
  b : Nat
  o : Nat
  c : Nat
  l : List UInt8
def Part.zero : Part := ⟨0, 0, 0, []⟩
structure PartIn (w : World) (a : Addr) (p : Part) : Prop where
  cell : w.cell? a = some (.slice (some ⟨p.b, p.o, none⟩) p.l.length p.c)
  cap : p.l.length ≤ p.c
  bs : ∀ i, i < p.l.length → w.cell? ⟨p.b, p.o + i, none⟩ = some (B8 (p.l.getD i 0))
  lt : p.b < w.heap.size
def partsL (ps : List Part) : List UInt8 := ps.flatMap (·.l)
theorem partsL_take_succ {ps : List Part} {k : Nat} (h : k < ps.length) : partsL (ps.take (k + 1)) = partsL (ps.take k) ++ (ps.getD k Part.zero).l := by
  unfold partsL
  rw [List.take_succ_eq_append_getElem h, List.flatMap_append, List.getD_eq_getElem?_getD, List.getElem?_eq_getElem h]
  simp
theorem partsL_take_le (ps : List Part) (k : Nat) : (partsL (ps.take k)).length ≤ (partsL ps).length := by
  have : partsL ps = partsL (ps.take k) ++ partsL (ps.drop k) := by
    unfold partsL
    rw [← List.flatMap_append, List.take_append_drop]
  rw [this, List.length_append]
  omega

set_option maxRecDepth 100000 in
set_option maxHeartbeats 8000000 in
theorem join_any (pb po pc : Nat) (ps : List Part) (w : World) (hp : ∀ i, i < ps.length → PartIn w ⟨pb, po + i, none⟩ (ps.getD i Part.zero)) (hl : (partsL ps).length ≤ 1099511627776) (hn : ps.length ≤ 1099511627776) :
    Calls Tryd.prog 79 #[.slice (some ⟨pb, po, none⟩) ps.length pc] w fun e w' => e = .returned (.agg ((sha (partsL ps)).map B8).toArray) ∧ Below w.heap.size w w' := by
  have HP := Lib.hid hp
  have HL := Lib.hid hl
  clear hp hl
  go_enter Tryd.func79, Tryd.ntmps79
  go_upto_region 1 with fail
  go_cut [3] (fun s3 wx => ∃ hp kb, s3 = .pointer (some ⟨hp, 0, none⟩) ∧ HM wx (w.heap.size + 1) hp kb [] ∧ w.heap.size + 1 ≤ hp ∧ w.heap.size + 1 ≤ wx.heap.size ∧ wx.heap[w.heap.size]? = some (.cells z64 97 (0, 0)) ∧ Below w.heap.size w wx)
  case first =>
    have hz : ∀ w1 : World, w.heap.size + 1 ≤ w1.heap.size → Below (w.heap.size + 1) (w.alloc (.cells z64 97)) w1 → w1.heap[w.heap.size]? = some (.cells z64 97 (0, 0)) ∧ Below w.heap.size w w1 := fun w1 h1 h2 =>
      ⟨heap_on (w := w.alloc (.cells z64 97)) (by simpa using h2) (heap_alloc_new w _), later (boxed w _) (by simpa using h2)⟩
    replace hz := Lib.hid hz
    go_wp2_with fail
    refine (new_any _).mono ?_
    rintro e w1 ⟨hp, kb, rfl, h1, h2, hH, hB⟩
    simp at h1 h2 hB
    have hs := hB.size
    simp at hs
    have hz2 := hz.out w1 hs hB
    replace hH := Lib.hid hH
    replace hB := Lib.hid hB
    replace hz2 := Lib.hid hz2
    go_wp2_with fail
    go_meet
    exact ⟨hp, kb, rfl, ⟨none, 0, hH.out, OwnB.nil _ _⟩, h1, hs, hz2.out.1, hz2.out.2⟩
  case rest =>
    obtain ⟨hp, kb, rfl, hH, h1, h2, h3, hB⟩ := hcut
    have hI := Lib.hid (show HM wc (w.heap.size + 1) hp kb (partsL (ps.take 0)) ∧ wc.heap[w.heap.size]? = some (.cells z64 97 (0, 0)) ∧ Below w.heap.size w wc ∧ w.heap.size + 1 ≤ wc.heap.size from ⟨by simpa [partsL] using hH, h3, hB, h2⟩)
    clear hH h2 h3 hB
    go_wp2_with fail
    go_loopw [9] (fun i wr => ∃ k : Nat, k ≤ ps.length ∧ i = .int .i64 k ∧ HM wr (w.heap.size + 1) hp kb (partsL (ps.take k)) ∧ wr.heap[w.heap.size]? = some (.cells z64 97 (0, 0)) ∧ Below w.heap.size w wr ∧ w.heap.size + 1 ≤ wr.heap.size) (fun i _ => ps.length - (intOf i).toNat)
    case atStart => exact ⟨0, Nat.zero_le _, rfl, hI.out⟩
    case round =>
      clear hI
      obtain ⟨k, hk, rfl, hH, hd, hB, hs⟩ := hrel
      rcases Nat.lt_or_ge k ps.length with hlt | hge
      · have hpk := HP.out k hlt
        have hss := Lib.hid (partsL_take_succ hlt)
        have hsl := partsL_take_le ps k
        have hsl2 := partsL_take_le ps (k + 1)
        rw [hss.out, List.length_append] at hsl2
        have hl2 := HL.out
        have x1 := cell_on hB hpk.cell
        have hcap := hpk.cap
        have hbb := hpk.lt
        have hbs := Lib.hid (fun i hi => cell_on hB (hpk.bs i hi))
        have k0 : (0 : Int) ≤ (k : Int) := by omega
        have k1 : (k : Int) < (ps.length : Int) := by omega
        clear hpk
        generalize ps.getD k Part.zero = p at *
        generalize hM : partsL (ps.take k) = M at *
        replace hM := Lib.hid hM
        replace hH := Lib.hid hH
        replace hd := Lib.hid hd
        replace hB := Lib.hid hB
        go_wp2_with fail
        refine (write_any (w.heap.size + 1) hp kb p.b p.o p.c M p.l _ hH.out (by omega) h1 (by omega) hcap (by omega) (by omega) hbs.out).mono ?_
        rintro e w2 ⟨rfl, hH2, hB2⟩
        have hd2 := Lib.hid ((hB2.block w.heap.size (by omega)).trans hd.out)
        have hB3 : Hid (Below w.heap.size w w2) := Lib.hid (hB.out.trans (hB2.mono (by omega)))
        have hs2 := hB2.size
        replace hH2 := Lib.hid hH2
        replace hB2 := Lib.hid hB2
        go_wp2_with fail
        go_roundw
        case rel =>
          refine ⟨k + 1, by omega, by go_num, ?_, hd2.out, hB3.out, by omega⟩
          rw [hss.out]
          exact hH2.out
        case measure => simp [intOf]; omega
      · have : k = ps.length := by omega
        subst this
        rw [List.take_length] at hH
        replace hd := Lib.hid hd
        replace hB := Lib.hid hB
        have hl2 := HL.out
        go_wp2_with fail
        refine (sum_any (w.heap.size + 1) hp kb _ _ hH (by omega)).mono ?_
        rintro e w2 ⟨rfl, hB2⟩
        rename_i hK
        have hd2 := Lib.hid (heap_on hB2 hd.out)
        have hB3 := Lib.hid (below_keep hB.out (Keep.of_below (D := fun _ => False) hB2) (fun _ h => h.elim) (by omega))
        have hsz : ((sha (partsL ps)).map B8).toArray.size = 64 := by simp [sha_length]
        have hone : ((sha (partsL ps)).map B8).toArray.all (·.oneCell') = true := all_oneCell_toArray one_bytes
        have hs2 := hB2.size
        clear hB2 hH hd hB
        generalize hD : ((sha (partsL ps)).map B8).toArray = D at hsz hone
        replace hD := Lib.hid hD
        have hif : (Tryd.prog.info? 97).map (·.size) = some D.size := by rw [hsz]; kernel_rfl
        refine hK _ _ ?_
        refine wpList_storeW _ rfl _ _ _ rfl w.heap.size D rfl rfl z64 _ hd2.out hif (by rw [hsz]; rfl) hone ?_
        refine wpList_nil ?_
        go_wp2
        exact bodyPost_ret (results_cell_row rfl _ _ w.heap.size 97 D (0, 0) _ rfl (setRow_heap _ _ _ _ _ _ hd2.out) Tryd.underlying97 rfl hif) rfl ⟨by rw [hD.out], below_keep hB3.out (setRow_keep _ _ _) (fun i e => by omega) (by omega)⟩
end Go.Proofs.YtmnmmabhmedioaaDoor
