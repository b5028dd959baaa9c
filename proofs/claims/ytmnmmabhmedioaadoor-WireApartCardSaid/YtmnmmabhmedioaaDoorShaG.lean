/- SHA-512: Sum. -/
import Derived.Test.YtmnmmabhmedioaaDoorShaF
namespace Go.Proofs.YtmnmmabhmedioaaDoor
open Go.RowKit
set_option linter.unusedVariables false
set_option linter.unusedSimpArgs false

theorem info5one : (Tryd.prog.info? 5).map (·.size) = some 1 := by kernel_rfl

/-- Two variables of 64 bytes, made first. -/
def z64 : Array Value := (List.replicate 64 (.int .u8 0)).toArray
structure Two (w wx : World) (cs : Array Value) : Prop where
  d0 : wx.heap[w.heap.size]? = some (.cells z64 97 (0, 0))
  d1 : wx.heap[w.heap.size + 1]? = some (.cells cs 97 (0, 0))
  bel : Below w.heap.size w wx
theorem two_made (w : World) : Two w ((w.alloc (.cells z64 97)).alloc (.cells z64 97)) z64 :=
  ⟨by rw [heap_alloc?, if_neg (by simp)]; exact heap_alloc_new w _, by rw [heap_alloc?, if_pos (by simp)], later (boxed _ _) (boxed _ _)⟩

/-- What Sum's loops keep. -/
structure SumSt (w wr : World) (hp kb S : Nat) (tv : Value) (N : UInt64) (st0 F : St) (cs : Array Value) : Prop where
  hs : Hs wr hp kb st0 tv N
  s : wr.heap[S]? = some (.cells F.vals 155 (0, 0))
  two : Two w wr cs
  hS : w.heap.size + 2 ≤ S
  hl : hp < w.heap.size
theorem Two.on {w wx wy : World} {cs : Array Value} (hb : Below wx.heap.size wx wy) (h : Two w wx cs) : Two w wy cs := ⟨heap_on hb h.d0, heap_on hb h.d1, below_keep h.bel (Keep.of_below (D := fun _ => False) hb) (fun _ h => h.elim) h.bel.size⟩
theorem SumSt.on {w wr wy : World} {hp kb S : Nat} {tv : Value} {N : UInt64} {st0 F : St} {cs : Array Value} (hb : Below wr.heap.size wr wy) (h : SumSt w wr hp kb S tv N st0 F cs) : SumSt w wy hp kb S tv N st0 F cs :=
  ⟨h.hs.on hb, heap_on hb h.s, h.two.on hb, h.hS, h.hl⟩
theorem SumSt.set {w wr : World} {hp kb S : Nat} {tv : Value} {N : UInt64} {st0 F : St} {cs : Array Value} (h : SumSt w wr hp kb S tv N st0 F cs) (hk : kb < w.heap.size) (t : St) : SumSt w (W8 wr S t) hp kb S tv N st0 t cs := by
  have k := W8.keep wr S t
  have h1 := h.hS
  have h2 := h.hl
  exact ⟨h.hs.keep k (by omega) (by omega), eight h.s _ _ _ _ _ _ _ _, ⟨k.heap (by omega) h.two.d0, k.heap (by omega) h.two.d1, below_keep h.two.bel k (fun i e => by omega) h.two.bel.size⟩, h.hS, h.hl⟩

def SumLoop (w : World) (hp kb S g : Nat) (tv : Value) (N : UInt64) (st0 : St) (full : List UInt8) (s5 : Value) (wr : World) : Prop :=
  ∃ j o n d, s5 = .slice (some ⟨g, o, none⟩) n d ∧ n = (full.drop (128 * j)).length ∧ n ≤ d ∧ 128 * j ≤ full.length ∧ (∀ i, i < n → wr.cell? ⟨g, o + i, none⟩ = some (B8 ((full.drop (128 * j)).getD i 0))) ∧ SumSt w wr hp kb S tv N st0 (absN H0 full j) z64

/-- The digest's variable behind i rounds. -/
def dcs (F : St) (i : Nat) : Array Value := ((digL F i ++ List.replicate (64 - i) 0).map B8).toArray
theorem dcs_zero (F : St) : dcs F 0 = z64 := rfl
theorem digL_succ (F : St) (i : Nat) : digL F (i + 1) = digL F i ++ [(F.get (i / 8) >>> UInt64.ofNat (56 - 8 * (i % 8))).toUInt8] := by simp [digL, List.range_succ]
theorem dcs_at (F : St) {i : Nat} (h : i < 64) : (dcs F i)[i]? = some (B8 0) := by
  have e : (digL F i).length = i := digL_length _ _
  simp only [dcs, List.getElem?_toArray, List.map_append]
  rw [List.getElem?_append_right (by simp [e]), List.length_map, e, Nat.sub_self, show 64 - i = (63 - i) + 1 from by omega, List.replicate_succ]
  rfl
theorem dcs_set (F : St) {i : Nat} (h : i < 64) : (dcs F i).setIfInBounds i (B8 (F.get (i / 8) >>> UInt64.ofNat (56 - 8 * (i % 8))).toUInt8) = dcs F (i + 1) := by
  have e : (digL F i).length = i := digL_length _ _
  apply Array.toList_inj.1
  simp only [dcs, Array.toList_setIfInBounds, digL_succ, List.map_append, List.append_assoc]
  rw [List.set_append_right _ _ (by simp [e]), List.length_map, e, Nat.sub_self, show 64 - i = (63 - i) + 1 from by omega, List.replicate_succ, List.map_cons, List.set_cons_zero, show 64 - (i + 1) = 63 - i from by omega]
  rfl
theorem dcs_size (F : St) {i : Nat} (h : i ≤ 64) : (dcs F i).size = 64 := by
  simp [dcs, digL_length]
  omega
theorem SumSt.dset {w wr : World} {hp kb S : Nat} {tv : Value} {N : UInt64} {st0 F : St} {i : Nat} (h : SumSt w wr hp kb S tv N st0 F (dcs F i)) (hk : kb < w.heap.size) (hi : i < 64) :
    SumSt w (wr.setCell ⟨w.heap.size + 1, i, none⟩ (B8 (F.get (i / 8) >>> UInt64.ofNat (56 - 8 * (i % 8))).toUInt8)) hp kb S tv N st0 F (dcs F (i + 1)) := by
  have h1 := h.hS
  have h2 := h.hl
  have k : Keep (fun n => n = w.heap.size + 1) wr (wr.setCell ⟨w.heap.size + 1, i, none⟩ (B8 (F.get (i / 8) >>> UInt64.ofNat (56 - 8 * (i % 8))).toUInt8)) := Keep.set (fun n => n = w.heap.size + 1) _ _ _ rfl
  refine ⟨h.hs.keep k (by omega) (by omega), k.heap (by omega) h.s, ⟨k.heap (by omega) h.two.d0, ?_, below_keep h.two.bel k (fun i e => by omega) h.two.bel.size⟩, h.hS, h.hl⟩
  rw [← dcs_set F hi]
  exact heap_set h.two.d1 _

set_option maxRecDepth 100000 in
set_option maxHeartbeats 8000000 in
theorem sum_any (B hp kb : Nat) (M : List UInt8) (w : World) (H : HM w B hp kb M) (hM : M.length ≤ 2199023255552) :
    Calls Tryd.prog 94 #[.pointer (some ⟨hp, 0, none⟩)] w fun e w' => e = .returned (.agg ((sha M).map B8).toArray) ∧ Below w.heap.size w w' := by
  obtain ⟨A, c, H, hO⟩ := H
  have hlp := heap_lt H.hh
  have htl := tailOf_lt M
  obtain ⟨i0, hi0, hz0, hz1, hz2⟩ := info_parts inf5
  have hmk : ∀ w : World, (Instr.makeSlice 22 (.int .i64 ((tailOf M).length : Nat)) (.int .i64 512)).run Tryd.prog w = .ok (.slice (some ⟨w.heap.size, 0, none⟩) (tailOf M).length 512) (w.alloc (.cells (madeCells #[.int .u8 0] 512) 5)) := fun w => by
    have h := run_make (P := Tryd.prog) w 22 5 i0 (.int .u8 0) Tryd.underlying22 hi0 hz0 .i64 .i64 ((tailOf M).length : Nat) 512 (by omega) (by omega) (by rw [hz2]; omega) (by omega)
    rw [hz1] at h
    rw [h]
    rfl
  have hbs := Lib.hid hO.bs
  replace hmk := Lib.hid hmk
  replace hO := Lib.hid hO
  go_enter Tryd.func94, Tryd.ntmps94
  replace H := Lib.hid H
  go_upto_region 2 with fail
  go_cut [9] (fun s9 wx => s9 = .bool false ∧ Two w wx z64)
  case first =>
    go_wp2_with fail
    refine (made_any _ hp kb _ _ _ (H.out.on (later (boxed _ _) (boxed _ _)))).mono ?_
    rintro e w1 ⟨rfl, rfl⟩
    go_wp2_with fail
    go_meet
    exact ⟨rfl, two_made w⟩
  case rest =>
    obtain ⟨rfl, hcut⟩ := hcut
    have hH1 := H.out.on hcut.bel
    have z : ∀ j : Nat, ∀ v, #[U (stOf M).a, U (stOf M).b, U (stOf M).c, U (stOf M).d, U (stOf M).e, U (stOf M).f, U (stOf M).g, U (stOf M).h, .slice A (tailOf M).length c, U (UInt64.ofNat M.length), .pointer (some ⟨kb, 0, none⟩)][j]? = some v → wc.cell? ⟨hp, j, none⟩ = some v := fun j v h => cell_of hH1.hh h
    have z0 := z 0 _ rfl
    have z1 := z 1 _ rfl
    have z2 := z 2 _ rfl
    have z3 := z 3 _ rfl
    have z4 := z 4 _ rfl
    have z5 := z 5 _ rfl
    have z6 := z 6 _ rfl
    have z7 := z 7 _ rfl
    have z8 := z 8 _ rfl
    have z9 := z 9 _ rfl
    clear z
    have hst := Lib.hid (feed_even (M := M) (l := padL (UInt64.ofNat M.length)))
    have hM2 := Lib.hid (padL_mod (UInt64.ofNat M.length))
    have hN : (UInt64.ofNat M.length).toNat = M.length := by simp; omega
    rw [hN] at hM2
    replace hN := Lib.hid hN
    have hpl := Lib.hid (padL_length (UInt64.ofNat M.length))
    have hres := Lib.hid (show sha M = digL (stOf (M ++ padL (UInt64.ofNat M.length))) 64 from rfl)
    generalize UInt64.ofNat M.length = N at *
    have hlp2 := heap_lt hH1.hh
    replace hH1 := Lib.hid hH1
    replace hcut := Lib.hid hcut
    have hmk := hmk.out
    have hbs2 := Lib.hid (hbs.out.on hcut.out.bel)
    generalize stOf M = st at *
    generalize tailOf M = t at *
    go_wp2_with fail
    have hR : ((wc.alloc (.cells st.vals 155)).alloc (.cells (madeCells #[.int .u8 0] 512) 5)).heap[wc.heap.size + 1]? = some (.cells (madeCells #[.int .u8 0] 512) 5 (0, 0)) := by
      rw [heap_alloc?, if_pos (by simp)]
    have hsz := hcut.out.bel.size
    obtain ⟨w3, hr3, hO3, hk3⟩ := run_copy_made (P := Tryd.prog) _ 22 3 Tryd.underlying22 info5one w.heap.size (wc.heap.size + 1) t.length c 512 hR (by omega) A t (hbs2.out.on (later (boxed _ _) (boxed _ _))) rfl (by omega) (by decide)
    have hS3 : SumSt w w3 hp kb wc.heap.size (.slice A t.length c) N st st z64 := by
      have hb : Below wc.heap.size wc ((wc.alloc (.cells st.vals 155)).alloc (.cells (madeCells #[.int .u8 0] 512) 5)) := later (boxed _ _) (boxed _ _)
      have hb3 : Below wc.heap.size wc w3 := below_keep hb hk3 (fun i e => by omega) (by simp; omega)
      have h1 := heap_lt hcut.out.d1
      exact ⟨hH1.out.on hb3, hk3.heap (by omega) (by rw [heap_alloc?, if_neg (by simp)]; exact heap_alloc_new _ _), hcut.out.on hb3, by omega, hlp⟩
    replace hr3 := Lib.hid hr3
    replace hO3 := Lib.hid hO3
    have e9 : w3.cell? ⟨hp, 9, none⟩ = some (U N) := cell_of hS3.hs.hh rfl
    have hw3 := hS3.two.bel.size
    replace hS3 := Lib.hid hS3
    clear hk3 hR hbs2
    go_wp2_with fail
    rw [hr3.out]
    simp only [Result.andThen]
    rw [Oper.upon_value]
    clear hr3 hcut hH1 z0 z1 z2 z3 z4 z5 z6 z7 z8 z9 hmk hbs
    go_wp2_with fail
    refine (pad_any N _).mono ?_
    rintro e w4 ⟨v, rfl, A5, c5, rfl, hO5, hB5⟩
    have hpb : (padL N).length ≤ 145 ∧ 17 ≤ (padL N).length := by rw [hpl.out]; unfold padZ; omega
    have hO6 := Lib.hid (hO3.out.on hB5)
    have hS4 := Lib.hid (hS3.out.on hB5)
    have hw4 := hB5.size
    have hbs5 := Lib.hid hO5.bs
    replace hO5 := Lib.hid hO5
    replace hB5 := Lib.hid hB5
    go_wp2_with (at_builtin; go_must (refine wpList_append_bs _ rfl _ _ 22 rfl w.heap.size i0 Tryd.underlying22 hi0 hz0 hz1 hz2 (some ⟨wc.heap.size + 1, 0, none⟩) t.length 512 t rfl rfl hO6.out A5 _ c5 (padL N) rfl rfl hbs5.out ?q1 ?q2 ?_))
    case q1 => omega
    case q2 => omega
    intro A6 c6 w5 hO7 hg7 hat7
    have h7 := hO6.out.ge _ rfl
    have hB6 : Below w.heap.size w w5 := below_grew (hS4.out.two.bel) hO6.out (Nat.le_refl _) (by omega) hg7
    have hK6 : Keep (fun k => k = wc.heap.size + 1) w4 w5 := keep_grew hg7 (fun a ha => by cases ha; rfl)
    have hS5 : SumSt w w5 hp kb wc.heap.size (.slice A t.length c) N st st z64 := by
      have h8 := hS4.out.two
      have h9 := hS4.out.hS
      have ha := hS4.out.hs
      have hkb := heap_lt H.out.hk
      exact ⟨ha.keep hK6 (by omega) (by omega), hK6.heap (by omega) hS4.out.s, ⟨hK6.heap (by omega) h8.d0, hK6.heap (by omega) h8.d1, hB6⟩, h9, hlp⟩
    have hlen : (t ++ padL N).length = t.length + (padL N).length := by simp
    obtain ⟨g, cur, rfl, hg, hgr, hgc⟩ : ∃ g cur, A6 = some ⟨g, 0, none⟩ ∧ w.heap.size ≤ g ∧ w5.heap[g]? = some (.cells cur 5 (0, 0)) ∧ (t ++ padL N).length ≤ c6 := by
      rcases hO7.form with ⟨_, _, h⟩ | h
      · rw [h] at hlen
        simp only [List.length_nil] at hlen
        omega
      · exact h
    have hgS : g ≠ wc.heap.size := fun e => hO7.ne hS5.s (by decide) _ rfl e
    have hcells := hO7.bs.at
    have hS0 : SumLoop w hp kb wc.heap.size g (.slice A t.length c) N st (M ++ padL N) (.slice (some ⟨g, 0, none⟩) (t.length + (padL N).length) c6) w5 := by
      refine ⟨M.length / 128, 0, _, c6, rfl, ?_, by omega, by simp; omega, ?_, ?_⟩
      · rw [← hst.out.2, hlen]
      · intro i hi
        rw [← hst.out.2]
        exact hcells i (by omega)
      · rw [← hst.out.1]
        exact hS5
    have hgl := heap_lt hgr
    have hfl : 128 ∣ (M ++ padL N).length := by
      have := hM2.out
      simp
      omega
    have hfb : (M ++ padL N).length ≤ 4398046511104 := by simp; omega
    replace hS0 := Lib.hid hS0
    have hkb := heap_lt H.out.hk
    clear hcells hS5 hgr hK6 hB6 hO7 hg7 hat7 hS4 hO6 hO5 hB5 hbs5 hlen hS3 hO3 e9 hpl hst hM2
    generalize M ++ padL N = full at hS0 hfl hfb hres
    generalize t.length + (padL N).length = n0 at hS0 ⊢
    generalize wc.heap.size = S at hgS hS0 ⊢
    go_wp2_with fail
    go_loopw [5] (fun s5 wr => SumLoop w hp kb S g (.slice A t.length c) N st full s5 wr) (fun s5 _ => lenV s5)
    case atStart => exact hS0.out
    case round =>
      clear hS0
      obtain ⟨j, o2, n2, d2, rfl, hn2, hnd, hj, hX, hS⟩ := hrel
      replace hX := Lib.hid hX
      rcases Nat.eq_zero_or_pos n2 with h7 | h7
      · have he : absN H0 full j = stOf full := by
          have : j = full.length / 128 := by simp at hn2; omega
          rw [this]; rfl
        rw [he] at hS
        subst h7
        clear hn2 hX hnd
        generalize stOf full = F at hS hres
        replace hS := Lib.hid hS
        go_wp2_with fail
        obtain ⟨wo, rfl⟩ : ∃ wo : World, wo = wr := ⟨_, rfl⟩
        go_loopw [6, 47] (fun _ si wr => ∃ i : Nat, i ≤ 64 ∧ si = .int .i64 i ∧ SumSt w wr hp kb S (.slice A t.length c) N st F (dcs F i)) (fun _ si _ => 64 - (intOf si).toNat)
        case atStart => exact ⟨0, by omega, rfl, hS.out⟩
        case round =>
          clear hS
          obtain ⟨i, hi, rfl, hS⟩ := hrel
          rcases Nat.lt_or_ge i 64 with hlt | hge
          · have x1 : wr.cell? ⟨S, i / 8, none⟩ = some (U (F.get (i / 8))) := cell_of hS.s (vals_get _ (by omega))
            have x2 : wr.cell? ⟨w.heap.size + 1, i, none⟩ = some (.int .u8 0) := cell_of hS.two.d1 (dcs_at F hlt)
            have x3 : wr.frozen? ⟨w.heap.size + 1, i, none⟩ = false := free_of hS.two.d1
            have hS1 := Lib.hid (hS.dset hkb hlt)
            have g0 : (0 : Int) ≤ (i : Int) := by omega
            have g1 : (i : Int) < 64 := by omega
            clear hS
            have hv : nv (F.get (i / 8)) / 2 ^ (56 - 8 * (i % 8)) % 256 = nb (F.get (i / 8) >>> UInt64.ofNat (56 - 8 * (i % 8))).toUInt8 := by
              rw [u64_shr_pow _ _ (by omega), ← IntKind.wrap_u8, u8_of64]
            replace hv := Lib.hid hv
            go_wp2_with fail
            rw [hv.out]
            exact ⟨⟨i + 1, by omega, by go_num, hS1.out⟩, by simp [intOf]; omega⟩
          · have : i = 64 := by omega
            subst this
            have e64 : ((64 : Nat) : Int) = 64 := rfl
            rw [e64]
            have hfin : dcs F 64 = ((sha M).map B8).toArray := by rw [hres.out]; simp [dcs]
            rw [hfin] at hS
            have hsz : ((sha M).map B8).toArray.size = 64 := by simp [sha_length]
            have hone : ((sha M).map B8).toArray.all (·.oneCell') = true := all_oneCell_toArray one_bytes
            generalize hD : ((sha M).map B8).toArray = D at hS hsz hone
            replace hD := Lib.hid hD
            have hd0 := Lib.hid hS.two.d0
            have hd1 := Lib.hid hS.two.d1
            have hb := Lib.hid hS.two.bel
            have hif : (Tryd.prog.info? 97).map (·.size) = some D.size := by rw [hsz]; kernel_rfl
            clear hS hres
            go_upto_region 16 with fail
            go_step
            refine wpList_loadW _ rfl _ _ rfl (w.heap.size + 1) rfl D _ hd1.out _ Tryd.underlying97 rfl hif ?_
            refine wpList_storeW _ rfl _ _ _ rfl w.heap.size D rfl rfl z64 _ hd0.out hif (by rw [hsz]; rfl) hone ?_
            refine wpList_nil ?_
            go_wp2
            exact bodyPost_ret (results_cell_row rfl _ _ w.heap.size 97 D (0, 0) _ rfl (setRow_heap _ _ _ _ _ _ hd0.out) Tryd.underlying97 rfl hif) rfl ⟨by rw [hD.out], below_keep hb.out (setRow_keep _ _ _) (fun i e => by omega) hb.out.size⟩
      · have hlt : 128 * (j + 1) ≤ full.length ∧ 128 ≤ n2 := by simp at hn2; omega
        have hd2 : (128 : Int) ≤ (d2 : Int) := by omega
        have hpos : (0 : Int) < (n2 : Int) := by omega
        have hn128 : (128 : Int) ≤ (n2 : Int) := by omega
        have hst := feed_step (M := full) j
        have hlen : ((full.drop (128 * j)).take 128).length = 128 := by simp; omega
        have hbs : Hid (∀ i, i < 128 → wr.cell? ⟨g, o2 + i, none⟩ = some (B8 (((full.drop (128 * j)).take 128).getD i 0))) := Lib.hid (fun i hi => by rw [getD_take _ hi]; exact hX.out i (by omega))
        have hX2 : Hid (∀ i, i < n2 - 128 → wr.cell? ⟨g, o2 + 128 + i, none⟩ = some (B8 ((full.drop (128 * (j + 1))).getD i 0))) := Lib.hid (fun i hi => by rw [← hst.2, getD_drop, Nat.add_assoc]; exact hX.out (128 + i) (by omega))
        have hn3 : n2 - 128 = (full.drop (128 * (j + 1))).length := by rw [← hst.2, List.length_drop, ← hn2]
        replace hst := Lib.hid hst.1
        replace hn2 := Lib.hid hn2
        replace hn3 := Lib.hid hn3
        generalize absN H0 full j = st2 at hst hS
        generalize (full.drop (128 * j)).take 128 = bs at hst hlen hbs
        obtain ⟨F, hF⟩ : ∃ F, blockF st2 bs = F := ⟨_, rfl⟩
        rw [hF] at hst
        replace hF := Lib.hid hF
        have z : ∀ j : Nat, ∀ v, #[U st2.a, U st2.b, U st2.c, U st2.d, U st2.e, U st2.f, U st2.g, U st2.h][j]? = some v → wr.cell? ⟨S, j, none⟩ = some v := fun j v h => cell_of hS.s h
        have z0 := z 0 _ rfl
        have z1 := z 1 _ rfl
        have z2 := z 2 _ rfl
        have z3 := z 3 _ rfl
        have z4 := z 4 _ rfl
        have z5 := z 5 _ rfl
        have z6 := z 6 _ rfl
        have z7 := z 7 _ rfl
        have z10 : wr.cell? ⟨hp, 10, none⟩ = some (.pointer (some ⟨kb, 0, none⟩)) := cell_of hS.hs.hh rfl
        clear z hX
        replace hS := Lib.hid hS
        go_wp2_with fail
        go_region_law (go_simp; go_at_call 101
                       refine (block_st st2 g o2 d2 kb bs _ hlen ?_ ?_ F hF.out).mono ?_
                       · exact hbs.out
                       · exact hS.out.hs.kcell
                       rintro e w6 ⟨rfl, hB6⟩
                       have hb6 : Below wr.heap.size wr w6 := later (Below.refl _ _).drew hB6
                       have hS6 := hS.out.on hb6
                       have y : ∀ j : Nat, ∀ v, #[U st2.a, U st2.b, U st2.c, U st2.d, U st2.e, U st2.f, U st2.g, U st2.h][j]? = some v → w6.cell? ⟨S, j, none⟩ = some v := fun j v h => cell_of hS6.s h
                       have y0 := y 0 _ rfl
                       have y1 := y 1 _ rfl
                       have y2 := y 2 _ rfl
                       have y3 := y 3 _ rfl
                       have y4 := y 4 _ rfl
                       have y5 := y 5 _ rfl
                       have y6 := y 6 _ rfl
                       have y7 := y 7 _ rfl
                       have yf : ∀ o, w6.frozen? ⟨S, o, none⟩ = false := fun o => free_of hS6.s
                       have hX6 : Hid (∀ i, i < n2 - 128 → (W8 w6 S F).cell? ⟨g, o2 + 128 + i, none⟩ = some (B8 ((full.drop (128 * (j + 1))).getD i 0))) := Lib.hid (fun i hi => (W8.keep w6 S F).cell hgS (cell_on hb6 (hX2.out i hi)))
                       have hS7 := Lib.hid (hS6.set hkb F)
                       clear hS6 hB6 y hb6)
        all_goals go_wp2_with fail
        all_goals obtain ⟨o3, ho3, ho4⟩ := cut128 g o2 hnd
        all_goals rw [ho3]
        all_goals exact ⟨⟨j + 1, o3, n2 - 128, d2 - 128, rfl, hn3.out, by omega, hlt.1, fun i hi => by rw [ho4 (by omega)]; exact hX6.out i hi, by rw [← hst.out]; exact hS7.out⟩, by simp [lenV]; omega⟩
end Go.Proofs.YtmnmmabhmedioaaDoor
