/- Wire: the law WireApart: the walk where both messages are encoded. (Printed by gen_apart.py main.) -/
import Derived.Test.YtmnmmabhmedioaaDoorWuL
namespace Go.Proofs.YtmnmmabhmedioaaDoor
open Go.RowKit
set_option linter.unusedVariables false
set_option linter.unusedSimpArgs false
set_option maxRecDepth 100000

theorem MsgIn.keep {D : Nat → Prop} {w w' : World} {cs : Array Value} {m : Msg} {LA : Option Addr} {lc : Nat} {TA : Option Addr} {tc : Nat} (k : Keep D w w') (hl : ∀ a, LA = some a → ¬ D a.block) (ht : ∀ a, TA = some a → ¬ D a.block) (h : MsgIn w cs m LA lc TA tc) : MsgIn w' cs m LA lc TA tc :=
  ⟨h.cells, h.llc, h.ltc, fun h0 => by
    obtain ⟨b, o, rfl, hc⟩ := h.list h0
    exact ⟨b, o, rfl, fun i hi j v hv => k.cell (a := ⟨b, o + i * 65 + j, none⟩) (hl ⟨b, o, none⟩ rfl) (hc i hi j v hv)⟩, h.text.keep k ht, h.pok, h.lsz, h.tsz⟩
set_option maxHeartbeats 4000000 in
theorem usedw_any (c1 : Array Value) (m : Msg) (LA : Option Addr) (lc : Nat) (TA : Option Addr) (tc : Nat) (w : World) (hM : MsgIn w c1 m LA lc TA tc) (hf : faultM m = none) : Calls Tryd.prog 20 #[.agg c1] w (UsedPost w m) := by
  have hX : ((w.alloc (.cells c1 36)).alloc (.cells Tryd.zeroCells36 36)).heap[w.heap.size]? = some (.cells c1 36 (0, 0)) := by
    rw [heap_alloc?, if_neg (by simp)]; exact heap_alloc_new w _
  have hY : ((w.alloc (.cells c1 36)).alloc (.cells Tryd.zeroCells36 36)).heap[w.heap.size + 1]? = some (.cells Tryd.zeroCells36 36 (0, 0)) := by
    rw [heap_alloc?, if_pos (by simp)]
  have hB : Below w.heap.size w ((w.alloc (.cells c1 36)).alloc (.cells Tryd.zeroCells36 36)) := later (boxed _ _) (boxed _ _)
  have hs : w.heap.size + 2 ≤ ((w.alloc (.cells c1 36)).alloc (.cells Tryd.zeroCells36 36)).heap.size := by simp
  have hif1 : (Tryd.prog.info? 36).map (·.size) = some c1.size := by rw [hM.cells.size]; kernel_rfl
  replace hM := Lib.hid hM
  replace hf := Lib.hid hf
  go_enter Tryd.func20, Tryd.ntmps20
  go_upto_region 1 with fail
  generalize (w.alloc (.cells c1 36)).alloc (.cells Tryd.zeroCells36 36) = W at *
  have rX := Lib.hid (rowAt_all hX)
  replace hX := Lib.hid hX
  replace hY := Lib.hid hY
  go_wp2_with (refine wpList_loadM _ rfl _ _ rfl w.heap.size 0 rfl c1 rX.out _ Tryd.underlying36 rfl hif1 ?_)
  refine (used_any c1 m LA lc TA tc W (hM.out.on hB) hf.out).mono ?_
  rintro e w1 ⟨cs, LB, ld, TB, td, rfl, h1, h2, h3, h4⟩
  have hif : (Tryd.prog.info? 36).map (·.size) = some cs.size := by rw [h1.cells.size]; kernel_rfl
  have hzD : Tryd.zeroCells36.size = cs.size := by rw [h1.cells.size]; exact zC_size
  have hone := h1.cells.one rfl rfl
  have hY1 := Lib.hid (heap_on h2 hY.out)
  have hKy := setRow_keep w1 (w.heap.size + 1) cs
  have hYz := setRow_heap w1 (w.heap.size + 1) _ cs _ _ hY1.out
  have hM2 := h1.keep hKy (fun a ha => by have := h3 a ha; omega) (fun a ha => by have := h4 a ha; omega)
  have hB2 := below_keep (later' hB h2) hKy (fun i e => by omega) (later' hB h2).size
  have hl : ∀ a, LB = some a → w.heap.size ≤ a.block := fun a ha => by have := h3 a ha; omega
  have ht : ∀ a, TB = some a → w.heap.size ≤ a.block := fun a ha => by have := h4 a ha; omega
  replace hM2 := Lib.hid hM2
  replace hB2 := Lib.hid hB2
  replace hl := Lib.hid hl
  replace ht := Lib.hid ht
  replace hYz := Lib.hid hYz
  clear h1 h2 h3 h4 hB hX hY rX hKy
  go_wp2_with (refine wpList_storeW _ rfl _ _ _ rfl (w.heap.size + 1) cs rfl rfl _ _ hY1.out hif hzD hone ?_)
  have hL := run_loadVar_row (P := Tryd.prog) _ (w.heap.size + 1) 36 36 cs (0, 0) _ hYz.out Tryd.underlying36 rfl hif
  exact bodyPost_ret (v := .agg cs) (results_cell1 rfl _ _ ⟨w.heap.size + 1, 0, none⟩ (.agg cs) rfl hL) rfl ⟨cs, LB, ld, TB, td, rfl, hM2.out, hB2.out, hl.out, ht.out⟩

set_option maxHeartbeats 16000000 in
theorem apart_gg (c1 c2 : Array Value) (m n : Msg) (LA : Option Addr) (lc : Nat) (TA : Option Addr) (tc : Nat) (LB : Option Addr) (ld : Nat) (TB : Option Addr) (td : Nat) (w : World) (hM : MsgIn w c1 m LA lc TA tc) (hN : MsgIn w c2 n LB ld TB td) (ht : Tab w.heap.size w) (cut : Int) (hf : faultM m = none) (hg : faultM n = none) : Calls Tryd.prog 4 #[.agg c1, .agg c2, .int .i64 cut] w fun e w' => e = .returned (.bool true) ∧ Below w.heap.size w w' := by
  have hiff := frames_iff hM.ok hN.ok hf hg (hM.fit hf) (hN.fit hg)
  have hde : decide (frameL (u8 m.kind) (bodyM m) = frameL (u8 n.kind) (bodyM n)) = decide (usedM m = usedM n) := by simp only [hiff]
  replace hde := Lib.hid hde
  clear hiff
  have hkd := faultM_kind hf
  have hfit := hM.fit hf
  have hfit2 := hN.fit hg
  replace hf := Lib.hid hf
  replace hg := Lib.hid hg
  have hX : ((w.alloc (.cells c1 36)).alloc (.cells c2 36)).heap[w.heap.size]? = some (.cells c1 36 (0, 0)) := by
    rw [heap_alloc?, if_neg (by simp)]; exact heap_alloc_new w _
  have hY : ((w.alloc (.cells c1 36)).alloc (.cells c2 36)).heap[w.heap.size + 1]? = some (.cells c2 36 (0, 0)) := by
    rw [heap_alloc?, if_pos (by simp)]
  have hB : Below w.heap.size w ((w.alloc (.cells c1 36)).alloc (.cells c2 36)) := later (boxed _ _) (boxed _ _)
  have hif1 : (Tryd.prog.info? 36).map (·.size) = some c1.size := by rw [hM.cells.size]; kernel_rfl
  have hif2 : (Tryd.prog.info? 36).map (·.size) = some c2.size := by rw [hN.cells.size]; kernel_rfl
  replace hM := Lib.hid hM
  replace hN := Lib.hid hN
  replace ht := Lib.hid ht
  have g1 := err_eq
  have g2 := err_ne
  have g3 := nil_eq
  have g4 := nil_ne
  go_enter Tryd.func4, Tryd.ntmps4
  go_upto_region 1 with fail
  generalize ((w.alloc (.cells c1 36)).alloc (.cells c2 36)) = w1 at hX hY hB ⊢
  replace hX := Lib.hid hX
  replace hY := Lib.hid hY
  replace hB := Lib.hid hB
  go_wp2_with fail
  refine (works_any w1 (ht.out.on hB.out)).mono ?_
  rintro e w2 ⟨rfl, hB2⟩
  have hX2 := Lib.hid (rowAt_all (heap_on hB2 hX.out))
  have hY2 := Lib.hid (rowAt_all (heap_on hB2 hY.out))
  have hB12 := Lib.hid (later hB.out hB2)
  clear hX hY hB hB2
  go_wp2_with (refine wpList_loadM _ rfl _ _ rfl w.heap.size 0 rfl c1 hX2.out _ Tryd.underlying36 rfl hif1 ?_)
  refine (encode_good c1 m LA lc TA tc w2 (hM.out.on hB12.out) hf.out).mono ?_
  rintro e w3 ⟨A1, k1, rfl, hO1, hBn⟩
  have hX3 := Lib.hid (hX2.out.on hBn)
  have hY3 := Lib.hid (hY2.out.on hBn)
  have hB13 := Lib.hid (later hB12.out hBn)
  clear hX2 hY2 hB12
  have hs23 := hBn.size
  clear hBn
  go_wp2_with (refine wpList_loadM _ rfl _ _ rfl (w.heap.size + 1) 0 rfl c2 hY3.out _ Tryd.underlying36 rfl hif2 ?_)
  refine (encode_good c2 n LB ld TB td w3 (hN.out.on hB13.out) hg.out).mono ?_
  rintro e w4 ⟨A2, k2, rfl, hO2, hBn⟩
  have hX4 := Lib.hid (hX3.out.on hBn)
  have hY4 := Lib.hid (hY3.out.on hBn)
  have hB14 := Lib.hid (later hB13.out hBn)
  have hM4 := Lib.hid (hM.out.on hB14.out)
  have hN4 := Lib.hid (hN.out.on hB14.out)
  obtain ⟨L, hLd⟩ : ∃ L, 14 + (bodyM m).length = L := ⟨_, rfl⟩
  obtain ⟨Q, hQd⟩ : ∃ Q, 10 + (bodyM m).length = Q := ⟨_, rfl⟩
  have hfl1 : (frameL (u8 m.kind) (bodyM m)).length = L := by simp [frameL, preL_len, sha_length]; omega
  have hfl2 : (frameL (u8 n.kind) (bodyM n)).length = 14 + (bodyM n).length := by simp [frameL, preL_len, sha_length]; omega
  rw [hLd]
  have hb1 := Lib.hid (hO1.bs.on hBn)
  have hb2 := Lib.hid hO2.bs
  obtain ⟨g, rfl, hgl, hgc⟩ : ∃ g, A1 = some ⟨g, 0, none⟩ ∧ g < w4.heap.size ∧ L ≤ k1 := by
    rcases hO1.form with ⟨_, _, h⟩ | ⟨g, cur, h1, _, h3, h4⟩
    · rw [h] at hfl1; simp at hfl1; omega
    · exact ⟨g, h1, Nat.lt_of_lt_of_le (heap_lt h3) hBn.size, by omega⟩
  have hsb : Hid (∀ wx, Below w4.heap.size w4 wx → Calls Tryd.prog 19 #[.slice (some ⟨g, 0, none⟩) L k1, .slice A2 (14 + (bodyM n).length) k2] wx fun e w' => e = .returned (.bool (decide (usedM m = usedM n))) ∧ ∃ m, w' = wx.drewN m) := Lib.hid fun wx hx => by
    have h := sameBytes_any (some ⟨g, 0, none⟩) A2 k1 k2 _ _ wx (hb1.out.on hx) (hb2.out.on hx) (by omega) (by omega)
    rw [hfl1, hfl2, hde.out] at h
    exact h
  have hu1 : Hid (∀ wx, Below w4.heap.size w4 wx → Calls Tryd.prog 20 #[.agg c1] wx (UsedPost wx m)) := Lib.hid fun wx hx => usedw_any c1 m LA lc TA tc wx (hM4.out.on hx) hf.out
  have hu2 : Hid (∀ wx, Below w4.heap.size w4 wx → Calls Tryd.prog 20 #[.agg c2] wx (UsedPost wx n)) := Lib.hid fun wx hx => usedw_any c2 n LB ld TB td wx (hN4.out.on hx) hg.out
  have hnk : nb (u8 m.kind) = m.kind := by rw [nb_u8 (by omega)]; omega
  have hk1 : 1 ≤ nb (u8 m.kind) := by omega
  have hk6 : nb (u8 m.kind) ≤ 6 := by omega
  clear hX3 hY3 hB13 hBn hO1 hO2 hfl1 hfl2 hnk hkd hfit2 hM4 hN4 hs23 hde hM hN hb2
  generalize u8 m.kind = kd at hb1 hk1 hk6
  generalize bodyM m = body at hb1 hLd hQd hfit
  go_upto_region 7 with fail
  refine wp_region_held_drew (S := fun wx => Below w4.heap.size w4 wx) (by kernel_rfl) ((Below.refl _ _).drew) (fun hHeld => ?_)
  refine wpAnyH_take (i := 0) (v := .slice (some ⟨g, 0, none⟩) L k1) rfl (by kernel_rfl) (by kernel_rfl) (by kernel_rfl) (fun _ _ _ h => h) (Or.inl ⟨by rfl, ?_⟩) (by assumption) ?_
  · intro w hSw
    go_simp
  refine wpAnyH_take (i := 1) (v := .slice A2 (14 + (bodyM n).length) k2) rfl (by kernel_rfl) (by kernel_rfl) (by kernel_rfl) (fun _ _ _ h => h) (Or.inl ⟨by rfl, ?_⟩) (by assumption) ?_
  · intro w hSw
    go_simp
  refine wpAnyH_take (i := 3) (v := .agg c1) rfl (by kernel_rfl) (by kernel_rfl) (by kernel_rfl) (fun _ _ _ h => h) (yieldsIf_load_mid (by rfl) _ _ rfl w.heap.size 0 rfl c1.toList _ (fun wx hx => (hX4.out.on hx).range) Tryd.underlying36 rfl (by simpa using hif1)) (by assumption) ?_
  refine wpAnyH_take (i := 5) (v := .agg c2) rfl (by kernel_rfl) (by kernel_rfl) (by kernel_rfl) (fun _ _ _ h => h) (yieldsIf_load_mid (by rfl) _ _ rfl (w.heap.size + 1) 0 rfl c2.toList _ (fun wx hx => (hY4.out.on hx).range) Tryd.underlying36 rfl (by simpa using hif2)) (by assumption) ?_
  refine wpAnyH_ready (rs := [2]) (by kernel_rfl) (by simp) ?_
  refine AllReadyH.cons rfl (fun K hK => ?_) AllReadyH.nil
  go_simp
  go_at_call 19
  refine (hsb.out _ hHeld).mono ?_
  rintro e w5 ⟨rfl, dm, hwm⟩
  try go_simp
  refine hK.out _ _ (by first | (rw [hwm]; exact below_drewN hHeld dm) | exact below_drewN (Below.refl _ _) _) (fun hHeld => ?_)
  clear hK
  refine wpAnyH_ready (rs := [4]) (by kernel_rfl) (by simp) ?_
  refine AllReadyH.cons rfl (fun K hK => ?_) AllReadyH.nil
  go_simp
  go_at_call 20
  refine (hu1.out _ hHeld).mono ?_
  rintro e w6 ⟨cs1, L1, l1c, T1, t1c, rfl, hU1, hBu1, -, -⟩
  try go_simp
  refine hK.out _ _ (later hHeld hBu1) (fun hHeld => ?_)
  clear hK
  refine wpAnyH_ready (rs := [6]) (by kernel_rfl) (by simp) ?_
  refine AllReadyH.cons rfl (fun K hK => ?_) AllReadyH.nil
  go_simp
  go_at_call 20
  refine (hu2.out _ hHeld).mono ?_
  rintro e w7 ⟨cs2, L2, l2c, T2, t2c, rfl, hU2, hBu2, -, -⟩
  try go_simp
  refine hK.out _ _ (later hHeld hBu2) (fun hHeld => ?_)
  clear hK
  refine wpAnyH_ready (rs := [7]) (by kernel_rfl) (by simp) ?_
  refine AllReadyH.cons rfl (fun K hK => ?_) AllReadyH.nil
  go_simp
  go_at_call 13
  refine (sameMessage_any cs1 cs2 (usedM m) (usedM n) L1 l1c T1 t1c L2 l2c T2 t2c _ (hU1.on hBu2) hU2).mono ?_
  rintro e w8 ⟨rfl, hBs⟩
  try go_simp
  refine hK.out _ _ (later hHeld hBs) (fun hHeld => ?_)
  clear hK
  refine wpAnyH_take (i := 8) (v := .bool false) rfl (by kernel_rfl) (by kernel_rfl) (by kernel_rfl) (fun _ _ _ h => h) (Or.inl ⟨by rfl, ?_⟩) (by assumption) ?_
  · intro w hSw
    go_simp
  refine wpAnyH_done (by kernel_rfl) ?_ _
  have hB18 := Lib.hid (later hB14.out hHeld)
  have hbk := Lib.hid (hb1.out.on hHeld)
  have hgl8 := Nat.lt_of_lt_of_le hgl hHeld.size
  clear hsb hu1 hu2 hHeld hX4 hY4 hB14 hb1 hgl hf hg hBu1 hBu2 hBs hU1 hU2
  obtain ⟨k, hkL, hcase⟩ : ∃ k : Nat, k < L ∧ ((cut.tmod (L : Int) = (k : Int)) ∨ (cut.tmod (L : Int) < 0 ∧ cut.tmod (L : Int) + (L : Int) = (k : Int))) := by
    have hL0 : (0 : Int) < (L : Int) := by omega
    have h1 := Int.tmod_lt_of_pos cut hL0
    have h2 : -(L : Int) < cut.tmod (L : Int) := by
      have h3 := Int.tmod_lt_of_pos (-cut) hL0
      rw [Int.neg_tmod] at h3
      omega
    by_cases h : cut.tmod (L : Int) < 0
    · exact ⟨(cut.tmod (L : Int) + (L : Int)).toNat, by omega, .inr ⟨h, by omega⟩⟩
    · exact ⟨(cut.tmod (L : Int)).toNat, by omega, .inl (by omega)⟩
  have hkc : (k : Int) ≤ (k1 : Int) := by omega
  have hk0 : (0 : Int) ≤ (k : Int) := Int.natCast_nonneg _
  have hkL2 : (k : Int) < (L : Int) := by omega
  have hbt := Lib.hid (hbk.out.take k)
  have hL0 : ¬ ((L : Int) = 0) := by omega
  have hdec := Lib.hid (decode_short g 0 k1 kd body ((sha (preL kd body)).take 4) w8 body.length L Q hk1 hk6 rfl hfit (sha4 _) hLd hQd hgc hgl8 k hkL hbt.out)
  clear hbk hbt hgl8
  rcases hcase with hr | ⟨hr0, hr⟩
  all_goals
    go_wp2_with fail
    refine hdec.out.mono ?_
    rintro e w9 ⟨q, rfl, hF, hB9⟩
    rename_i hK
    have hB19 := Lib.hid (later' hB18.out hB9 hB18.out.size)
    have hz9 := Lib.hid (heap_alloc_new w9 (.cells Tryd.zeroCells36 36))
    have hrow : (w9.alloc (.cells Tryd.zeroCells36 36)).setRow w9.heap.size Tryd.zeroCells36 = w9.alloc (.cells Tryd.zeroCells36 36) := World.setRow_alloc_new _ _ _ _
    have hF10 := Lib.hid (hF.on (boxed w9 (.cells Tryd.zeroCells36 36)))
    have hB10 := Lib.hid (later' hB19.out (boxed w9 (.cells Tryd.zeroCells36 36)) hB19.out.size)
    have hzif := zC_info
    have hzone := zC_one
    clear hdec hF hB9 hB19
    refine hK _ _ ?_
    clear hK
    go_upto_region 13 with (refine wpList_storeW _ rfl _ _ _ rfl w9.heap.size Tryd.zeroCells36 rfl rfl _ _ hz9.out hzif rfl hzone ?_)
    try rw [hrow]
    clear hrow hz9
    generalize w9.alloc (.cells Tryd.zeroCells36 36) = w10 at hF10 hB10 ⊢
    have hfa := fault_true q ⟨kFrame, (k : Int), 3⟩ w10 hF10.out (by simp [kFrame]) (ht.out.on hB10.out) hk0 (by show (k : Int) ≤ 1099511627776; omega) (by show (0 : Int) ≤ 3; decide) (by show (3 : Int) ≤ 1099511627776; decide) (by show kFrame.length ≤ 100; decide)
    replace hfa := Lib.hid hfa
    go_wp2_with fail
    refine hfa.out.mono ?_
    rintro e w11 ⟨rfl, hB11⟩
    go_wp2_with fail
    go_ret
    exact ⟨rfl, later' hB10.out hB11 hB10.out.size⟩
theorem apart_walk (c1 c2 : Array Value) (m n : Msg) (LA : Option Addr) (lc : Nat) (TA : Option Addr) (tc : Nat) (LB : Option Addr) (ld : Nat) (TB : Option Addr) (td : Nat) (w : World) (hM : MsgIn w c1 m LA lc TA tc) (hN : MsgIn w c2 n LB ld TB td) (ht : Tab w.heap.size w) (cut : Int) : Calls Tryd.prog 4 #[.agg c1, .agg c2, .int .i64 cut] w fun e w' => e = .returned (.bool true) ∧ Below w.heap.size w w' := by
  cases hf : faultM m with
  | some f1 =>
    cases hg : faultM n with
    | some f2 => exact apart_bb c1 c2 m n LA lc TA tc LB ld TB td w hM hN ht cut f1 hf f2 hg
    | none => exact apart_bg c1 c2 m n LA lc TA tc LB ld TB td w hM hN ht cut f1 hf hg
  | none =>
    cases hg : faultM n with
    | some f2 => exact apart_gb c1 c2 m n LA lc TA tc LB ld TB td w hM hN ht cut hf f2 hg
    | none => exact apart_gg c1 c2 m n LA lc TA tc LB ld TB td w hM hN ht cut hf hg
end Go.Proofs.YtmnmmabhmedioaaDoor
