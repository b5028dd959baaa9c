/- SHA-512: Write. -/
import Derived.Test.YtmnmmabhmedioaaDoorShaE
namespace Go.Proofs.YtmnmmabhmedioaaDoor
open Go.RowKit
set_option linter.unusedVariables false
set_option linter.unusedSimpArgs false

/-- The eight words are written. -/
abbrev W8 (w : World) (h : Nat) (t : St) : World := (((((((w.setCell ⟨h, 0, none⟩ (U t.a)).setCell ⟨h, 1, none⟩ (U t.b)).setCell ⟨h, 2, none⟩ (U t.c)).setCell ⟨h, 3, none⟩ (U t.d)).setCell ⟨h, 4, none⟩ (U t.e)).setCell ⟨h, 5, none⟩ (U t.f)).setCell ⟨h, 6, none⟩ (U t.g)).setCell ⟨h, 7, none⟩ (U t.h)
theorem W8.keep (w : World) (h : Nat) (t : St) : Keep (fun k => k = h) w (W8 w h t) :=
  have k : ∀ (w : World) (o : Nat) (v : Value), Keep (fun k => k = h) w (w.setCell ⟨h, o, none⟩ v) := fun w o v => Keep.set (fun k => k = h) h o v rfl
  (((((((k _ 0 _).trans (k _ 1 _)).trans (k _ 2 _)).trans (k _ 3 _)).trans (k _ 4 _)).trans (k _ 5 _)).trans (k _ 6 _)).trans (k _ 7 _)
theorem eleven {W : World} {T : Nat} {a0 a1 a2 a3 a4 a5 a6 a7 a8 a9 aa : Value} {ty : TypeId} (h : W.heap[T]? = some (.cells #[a0, a1, a2, a3, a4, a5, a6, a7, a8, a9, aa] ty (0, 0))) (b0 b1 b2 b3 b4 b5 b6 b7 : Value) :
    ((((((((W.setCell ⟨T, 0, none⟩ b0).setCell ⟨T, 1, none⟩ b1).setCell ⟨T, 2, none⟩ b2).setCell ⟨T, 3, none⟩ b3).setCell ⟨T, 4, none⟩ b4).setCell ⟨T, 5, none⟩ b5).setCell ⟨T, 6, none⟩ b6).setCell ⟨T, 7, none⟩ b7).heap[T]? = some (.cells #[b0, b1, b2, b3, b4, b5, b6, b7, a8, a9, aa] ty (0, 0)) := by
  have h0 : (W.setCell ⟨T, 0, none⟩ b0).heap[T]? = some (.cells #[b0, a1, a2, a3, a4, a5, a6, a7, a8, a9, aa] ty (0, 0)) := heap_set h b0
  generalize W.setCell ⟨T, 0, none⟩ b0 = W at h0 ⊢
  have h1 : (W.setCell ⟨T, 1, none⟩ b1).heap[T]? = some (.cells #[b0, b1, a2, a3, a4, a5, a6, a7, a8, a9, aa] ty (0, 0)) := heap_set h0 b1
  generalize W.setCell ⟨T, 1, none⟩ b1 = W at h1 ⊢
  have h2 : (W.setCell ⟨T, 2, none⟩ b2).heap[T]? = some (.cells #[b0, b1, b2, a3, a4, a5, a6, a7, a8, a9, aa] ty (0, 0)) := heap_set h1 b2
  generalize W.setCell ⟨T, 2, none⟩ b2 = W at h2 ⊢
  have h3 : (W.setCell ⟨T, 3, none⟩ b3).heap[T]? = some (.cells #[b0, b1, b2, b3, a4, a5, a6, a7, a8, a9, aa] ty (0, 0)) := heap_set h2 b3
  generalize W.setCell ⟨T, 3, none⟩ b3 = W at h3 ⊢
  have h4 : (W.setCell ⟨T, 4, none⟩ b4).heap[T]? = some (.cells #[b0, b1, b2, b3, b4, a5, a6, a7, a8, a9, aa] ty (0, 0)) := heap_set h3 b4
  generalize W.setCell ⟨T, 4, none⟩ b4 = W at h4 ⊢
  have h5 : (W.setCell ⟨T, 5, none⟩ b5).heap[T]? = some (.cells #[b0, b1, b2, b3, b4, b5, a6, a7, a8, a9, aa] ty (0, 0)) := heap_set h4 b5
  generalize W.setCell ⟨T, 5, none⟩ b5 = W at h5 ⊢
  have h6 : (W.setCell ⟨T, 6, none⟩ b6).heap[T]? = some (.cells #[b0, b1, b2, b3, b4, b5, b6, a7, a8, a9, aa] ty (0, 0)) := heap_set h5 b6
  generalize W.setCell ⟨T, 6, none⟩ b6 = W at h6 ⊢
  exact heap_set h6 b7
theorem W8.hs {w : World} {h kb : Nat} {s : St} {tv : Value} {n : UInt64} (H : Hs w h kb s tv n) (t : St) : Hs (W8 w h t) h kb t tv n :=
  ⟨eleven H.hh _ _ _ _ _ _ _ _, (W8.keep w h t).heap H.ne.symm H.hk, H.ne⟩

theorem block_st (st : St) (bb bo bc kb : Nat) (bs : List UInt8) (w : World) (hl : bs.length = 128)
    (hb : ∀ j, j < 128 → w.cell? ⟨bb, bo + j, none⟩ = some (B8 (bs.getD j 0))) (hk : ∀ j, j < 80 → w.cell? ⟨kb, j, none⟩ = some (U (kW.getD j 0))) (F : St) (hF : blockF st bs = F) :
    Calls Tryd.prog 101 #[.agg #[U st.a, U st.b, U st.c, U st.d, U st.e, U st.f, U st.g, U st.h], .slice (some ⟨bb, bo, none⟩) 128 bc, .pointer (some ⟨kb, 0, none⟩)] w fun e w' => e = .returned (.agg #[U F.a, U F.b, U F.c, U F.d, U F.e, U F.f, U F.g, U F.h]) ∧ Below w.heap.size w w' := by
  subst hF
  exact block_any _ _ _ _ _ _ _ _ _ _ _ _ _ _ hl hb hk

theorem cut128 (b o : Nat) {n d : Nat} (hn : n ≤ d) : ∃ o3, (if d = 128 then some (⟨b, o, none⟩ : Addr) else some ⟨b, o + 128, none⟩) = some ⟨b, o3, none⟩ ∧ (0 < n - 128 → o3 = o + 128) := by
  by_cases e : d = 128
  · exact ⟨o, by rw [if_pos e], fun h => by omega⟩
  · exact ⟨o + 128, by rw [if_neg e], fun _ => rfl⟩
def lenV : Value → Nat
  | .slice _ n _ => n
  | _ => 0

/-- A hasher that has taken M; its tail among the blocks from B on. -/
def HM (w : World) (B h kb : Nat) (M : List UInt8) : Prop :=
  ∃ A c, Hs w h kb (stOf M) (.slice A (tailOf M).length c) (UInt64.ofNat M.length) ∧ OwnB w B A c (tailOf M)

/-- Ahead of the loop's round j. -/
def WrLoop (w : World) (B h kb b : Nat) (M : List UInt8) (s1 : Value) (wx : World) : Prop :=
  ∃ j o n d A c, s1 = .slice (some ⟨b, o, none⟩) n d ∧ n = (M.drop (128 * j)).length ∧ n ≤ d ∧ 128 * j ≤ M.length ∧ (∀ i, i < n → w.cell? ⟨b, o + i, none⟩ = some (B8 ((M.drop (128 * j)).getD i 0))) ∧
    Hs wx h kb (absN H0 M j) (.slice A 0 c) (UInt64.ofNat M.length) ∧ OwnB wx B A c [] ∧ Below B w wx

theorem Hs.setN {w : World} {h kb : Nat} {s : St} {tv : Value} {n : UInt64} (H : Hs w h kb s tv n) (m : UInt64) : Hs (w.setCell ⟨h, 9, none⟩ (U m)) h kb s tv m :=
  ⟨heap_set H.hh _, by rw [Below.heap_setCell _ _ _ _ (by exact H.ne.symm)]; exact H.hk, H.ne⟩
theorem Hs.setT {w : World} {h kb : Nat} {s : St} {tv : Value} {n : UInt64} (H : Hs w h kb s tv n) (tv' : Value) : Hs (w.setCell ⟨h, 8, none⟩ tv') h kb s tv' n :=
  ⟨heap_set H.hh _, by rw [Below.heap_setCell _ _ _ _ (by exact H.ne.symm)]; exact H.hk, H.ne⟩
theorem Hs.ownSet {w : World} {h kb : Nat} {s : St} {tv : Value} {n : UInt64} (H : Hs w h kb s tv n) {B : Nat} {A : Option Addr} {c : Nat} {l : List UInt8} (hO : OwnB w B A c l) (o : Nat) (v : Value) : OwnB (w.setCell ⟨h, o, none⟩ v) B A c l :=
  hO.keep (Keep.set (fun k => k = h) h o v rfl) (hO.ne H.hh (by decide))
theorem Hs.grew {w w' : World} {h kb : Nat} {s : St} {tv : Value} {n : UInt64} (H : Hs w h kb s tv n) {B : Nat} {A : Option Addr} {c k : Nat} {l : List UInt8} (hO : OwnB w B A c l) (hg : w.grownBy w' (Value.slice A k c).ownBlock) : Hs w' h kb s tv n :=
  H.keep (D := fun k => ∃ a, A = some a ∧ a.block = k) (keep_grew hg (fun a ha => ⟨a, ha, rfl⟩)) (fun ⟨a, ha, e⟩ => hO.ne H.hh (by decide) a ha e) (fun ⟨a, ha, e⟩ => hO.ne H.hk (by decide) a ha e)

/-- Behind the filling of the tail with k bytes. -/
def WrFill (w : World) (B h kb b : Nat) (M l t : List UInt8) (k : Nat) (N2 : UInt64) (s1 : Value) (wx : World) : Prop :=
  ∃ o d A c, s1 = .slice (some ⟨b, o, none⟩) (l.length - k) d ∧ l.length - k ≤ d ∧ (∀ i, i < l.length - k → w.cell? ⟨b, o + i, none⟩ = some (B8 ((l.drop k).getD i 0))) ∧
    Hs wx h kb (stOf M) (.slice A (t.length + k) c) N2 ∧ OwnB wx B A c (t ++ l.take k) ∧ Below B w wx

set_option maxRecDepth 100000 in
set_option maxHeartbeats 8000000 in
theorem write_any (B hp kb b o d : Nat) (M l : List UInt8) (w : World) (H : HM w B hp kb M) (hB : B ≤ w.heap.size) (hh : B ≤ hp) (hb : b < B) (hd : l.length ≤ d) (hl : l.length ≤ 1099511627776) (hM : M.length ≤ 1099511627776)
    (hX : ∀ i, i < l.length → w.cell? ⟨b, o + i, none⟩ = some (B8 (l.getD i 0))) :
    Calls Tryd.prog 93 #[.pointer (some ⟨hp, 0, none⟩), .slice (some ⟨b, o, none⟩) l.length d] w fun e w' => e = .returned (.tuple #[]) ∧ HM w' B hp kb (M ++ l) ∧ Below B w w' := by
  obtain ⟨A, c, H, hO⟩ := H
  have hX2 := Lib.hid hX
  have h9 : IntKind.u64.wrap (nv (UInt64.ofNat M.length) + (l.length : Int)) = nv (UInt64.ofNat (M ++ l).length) := by
    rw [IntKind.wrap_u64, List.length_append]
    unfold nv
    simp
  generalize UInt64.ofNat M.length = N at H h9
  have hN2 : ∃ N2, N2 = UInt64.ofNat (M ++ l).length := ⟨_, rfl⟩
  obtain ⟨N2, hN2⟩ := hN2
  rw [← hN2] at h9
  have hN3 := Lib.hid hN2
  clear hN2
  have c9 : w.cell? ⟨hp, 9, none⟩ = some (U N) := cell_of H.hh rfl
  have f9 : w.frozen? ⟨hp, 9, none⟩ = false := free_of H.hh
  have c8 : w.cell? ⟨hp, 8, none⟩ = some (.slice A (tailOf M).length c) := cell_of H.hh rfl
  have hH := Lib.hid H
  have hO1 := Lib.hid hO
  clear H hX hO
  go_enter Tryd.func93, Tryd.ntmps93
  go_wp2_with fail
  refine (made_any _ hp kb _ _ _ hH.out).mono ?_
  rintro e w1 ⟨rfl, rfl⟩
  go_upto_if 23 with fail
  have hH1 := hH.out.setN N2
  have hO2 := hH.out.ownSet hO1.out 9 (U N2)
  have hB1 : Below B w (w.setCell ⟨hp, 9, none⟩ (U N2)) := (Below.refl _ _).setCell (p := ⟨hp, 9, none⟩) hh _
  have hz1 : (w.setCell ⟨hp, 9, none⟩ (U N2)).heap.size = w.heap.size := by simp
  clear c9 f9 c8 h9
  generalize w.setCell ⟨hp, 9, none⟩ (U N2) = w1 at hH1 hO2 hB1 hz1 ⊢
  have c8 : w1.cell? ⟨hp, 8, none⟩ = some (.slice A (tailOf M).length c) := cell_of hH1.hh rfl
  have f8 : ∀ wn : World, wn.heap[hp]? = w1.heap[hp]? → wn.frozen? ⟨hp, 8, none⟩ = false := fun wn e => free_of (e.trans hH1.hh)
  have hH2 := Lib.hid hH1
  have hO3 := Lib.hid hO2
  have hB2 := Lib.hid hB1
  replace f8 := Lib.hid f8
  clear hH1 hO2 hB1
  have ht := tailOf_lt M
  have htm := tailOf_length M
  have hfs := Lib.hid (fun h => feed_short (M := M) (l := l) h)
  have hfe := Lib.hid (feed_even (M := M) (l := l))
  have hff := Lib.hid (fun k h1 h2 => feed_fill (M := M) (l := l) k h1 h2)
  generalize tailOf M = t at c8 hO3 hO1 hH hH2 ht htm hfs hfe hff ⊢
  replace htm := Lib.hid htm
  go_cut [1] (fun s1 wx => WrLoop w B hp kb b (M ++ l) s1 wx)
  case first =>
    rcases Nat.eq_zero_or_pos t.length with h0 | h0
    · have e0 : (decide (0 < t.length)) = false := by simp [h0]
      rw [e0]
      go_wp2_with fail
      go_meet
      obtain rfl : t = [] := List.eq_nil_of_length_eq_zero h0
      have e2 := hfe.out.2
      rw [List.nil_append] at e2
      exact ⟨M.length / 128, o, l.length, d, A, c, rfl, by rw [← e2], hd, by simp; omega, fun i hi => by rw [← e2]; exact hX2.out i hi, by rw [← hfe.out.1, ← hN3.out]; exact hH2.out, hO3.out, hB2.out⟩
    · have e0 : (decide (0 < t.length)) = true := by simp; omega
      rw [e0]
      obtain ⟨i0, hi0, hz0, hz1, hz2⟩ := info_parts inf5
      obtain ⟨k, hk⟩ : ∃ k, k = min (128 - t.length) l.length := ⟨_, rfl⟩
      have hmin : min (128 - (t.length : Int)) (l.length : Int) = (k : Int) := by omega
      have hkl : k ≤ l.length := by omega
      have hkt : t.length + k ≤ 128 := by omega
      have hmd : ((l.length : Int) - (k : Int)).toNat = l.length - k := by omega
      have hkd : k ≤ d := by omega
      have hm2 := Lib.hid hmin
      have hk2 := Lib.hid hk
      clear hmin hk
      go_upto_region 4 with fail
      rw [hm2.out]
      go_cut [1] (fun s1 wx => WrFill w B hp kb b M l t k N2 s1 wx)
      case first =>
        have hq1 : (l.take k).length = k := by simp; omega
        have hq2 : Bs w1 (some ⟨b, o, none⟩) (l.take k) := ((Bs.arr (l := l) hX2.out).take k).below hB2.out (fun a ha => by cases ha; exact hb)
        have hq3 : t.length + (l.take k).length ≤ 140737488355328 := by omega
        have hq4 : B ≤ w1.heap.size := by omega
        replace hq2 := Lib.hid hq2
        have hq5 := Lib.hid hq4
        clear hq4
        go_region_law (refine step_append_bs _ (by rfl) _ _ 22 (by rfl) B i0 Tryd.underlying22 hi0 hz0 hz1 hz2 A t.length c t (by rfl) (by rfl) hO3.out (some ⟨b, o, none⟩) k d (l.take k) hq1 (by rfl) hq2.out hq3 hq5.out ?_
                       intro A4 c4 w4 hO4 hg4 hat4
                       have hH4 : Hs w4 hp kb (stOf M) (.slice A t.length c) N2 := Hs.grew (hH2.out.keep (D := fun _ => False) Keep.drew id id) (w := w1.drew) hO3.out hg4
                       have hB4 : Hid (Below B w w4) := Lib.hid (below_grew (w := w1.drew) hB2.out.drew hO3.out (Nat.le_refl _) hq5.out hg4)
                       have d8 : w4.cell? ⟨hp, 8, none⟩ = some (.slice A t.length c) := cell_of hH4.hh rfl
                       have e8 : w4.frozen? ⟨hp, 8, none⟩ = false := free_of hH4.hh
                       have hO5 := Lib.hid hO4
                       have hH5 := Lib.hid hH4
                       clear hO4 hg4 hat4 hH4)
        all_goals go_wp2_with fail
        all_goals go_meet
        · refine ⟨o, 0, A4, c4, rfl, by omega, fun i hi => absurd hi (by omega), hH5.out.setT _, hH5.out.ownSet hO5.out 8 _, hB4.out.setCell (p := ⟨hp, 8, none⟩) hh _⟩
        · refine ⟨o + k, d - k, A4, c4, rfl, by omega, ?_, hH5.out.setT _, hH5.out.ownSet hO5.out 8 _, hB4.out.setCell (p := ⟨hp, 8, none⟩) hh _⟩
          intro i hi
          rw [getD_drop, Nat.add_assoc]
          exact hX2.out (k + i) (by omega)
      case rest =>
        clear hO3 hB2 hH2 c8 hz1
        obtain ⟨o4, d4, A4, c4, rfl, hd4, hX4, hH4, hO4, hB4⟩ := hcut
        have c8 : wc.cell? ⟨hp, 8, none⟩ = some (.slice A4 (t.length + k) c4) := cell_of hH4.hh rfl
        have hH5 := Lib.hid hH4
        have hO5 := Lib.hid hO4
        have hB5 := Lib.hid hB4
        have hX5 := Lib.hid hX4
        rcases Nat.lt_or_ge (t.length + k) 128 with h7 | h7
        · clear hH4 hO4 hB4 hX4
          go_wp2_with fail
          refine bodyPost_ret (results_none rfl _ _ _) rfl ?_
          have hkl2 : k = l.length := by have := hk2.out; omega
          have e := hfs.out (by omega)
          have hO6 := hO5.out
          rw [hkl2, List.take_length] at hO6
          refine ⟨rfl, ⟨A4, c4, ?_, ?_⟩, hB5.out⟩
          · rw [e.1, e.2, ← hN3.out, List.length_append, ← hkl2]
            exact hH5.out
          · rw [e.2]
            exact hO6
        · have h8 : t.length + k = 128 := by omega
          rw [h8] at c8
          obtain ⟨g4, cur4, rfl, hg4, hgr, hgl⟩ : ∃ g cur, A4 = some ⟨g, 0, none⟩ ∧ B ≤ g ∧ wc.heap[g]? = some (.cells cur 5 (0, 0)) ∧ (t ++ l.take k).length ≤ c4 := by
            rcases hO4.form with ⟨_, _, h⟩ | h
            · have hlen : (t ++ l.take k).length = 128 := by simp; omega
              rw [h] at hlen
              cases hlen
            · exact h
          have hlen : (t ++ l.take k).length = 128 := by simp; omega
          have hbs := hO4.bs.at
          rw [hlen] at hbs
          simp only [Nat.zero_add] at hbs
          have hbs2 := Lib.hid hbs
          have hc4 : 128 ≤ c4 := by omega
          have c10 : wc.cell? ⟨hp, 10, none⟩ = some (.pointer (some ⟨kb, 0, none⟩)) := cell_of hH4.hh rfl
          have hst := hff.out k h8 hkl
          clear hbs hgl hO4 hB4 hX4 hff hfe hfs hO1 hH
          generalize stOf M = st at hst hH4 hH5
          generalize t ++ l.take k = bs at hst hO5 hlen hbs2
          obtain ⟨F, hF⟩ : ∃ F, blockF st bs = F := ⟨_, rfl⟩
          rw [hF] at hst
          replace hst := Lib.hid hst
          replace hF := Lib.hid hF
          have z : ∀ j : Nat, ∀ v, #[U st.a, U st.b, U st.c, U st.d, U st.e, U st.f, U st.g, U st.h, .slice (some ⟨g4, 0, none⟩) (t.length + k) c4, U N2, .pointer (some ⟨kb, 0, none⟩)][j]? = some v → wc.cell? ⟨hp, j, none⟩ = some v := fun j v h => cell_of hH4.hh h
          have z0 := z 0 _ rfl
          have z1 := z 1 _ rfl
          have z2 := z 2 _ rfl
          have z3 := z 3 _ rfl
          have z4 := z 4 _ rfl
          have z5 := z 5 _ rfl
          have z6 := z 6 _ rfl
          have z7 := z 7 _ rfl
          clear z hH4
          go_upto_region 6 with fail
          go_region_law (go_simp; go_at_call 101
                         refine (block_st st g4 0 c4 kb bs _ hlen ?_ ?_ F hF.out).mono ?_
                         · exact fun j hj => by rw [Nat.zero_add]; exact hbs2.out j hj
                         · exact hH5.out.kcell
                         rintro e w5 ⟨rfl, hB6⟩
                         have hH6 := hH5.out.on (later (Below.refl _ _).drew hB6)
                         have y : ∀ j : Nat, ∀ v, #[U st.a, U st.b, U st.c, U st.d, U st.e, U st.f, U st.g, U st.h, .slice (some ⟨g4, 0, none⟩) (t.length + k) c4, U N2, .pointer (some ⟨kb, 0, none⟩)][j]? = some v → w5.cell? ⟨hp, j, none⟩ = some v := fun j v h => cell_of hH6.hh h
                         have y0 := y 0 _ rfl
                         have y1 := y 1 _ rfl
                         have y2 := y 2 _ rfl
                         have y3 := y 3 _ rfl
                         have y4 := y 4 _ rfl
                         have y5 := y 5 _ rfl
                         have y6 := y 6 _ rfl
                         have y7 := y 7 _ rfl
                         have y8 := y 8 _ rfl
                         have yf : ∀ o, w5.frozen? ⟨hp, o, none⟩ = false := fun o => free_of hH6.hh
                         have hO6 := Lib.hid (hO5.out.on (later (Below.refl _ _).drew hB6))
                         have hB7 := Lib.hid (below_keep hB5.out (Keep.of_below (D := fun _ => False) (later (Below.refl _ _).drew hB6)) (fun _ h => h.elim) (by have := hB5.out.size; omega))
                         have hH7 := Lib.hid hH6
                         clear hH6 hB6 y)
          all_goals go_wp2_with fail
          all_goals go_meet
          all_goals have k8 := W8.keep w5 hp F
          all_goals have ne8 := hO6.out.ne hH7.out.hh (by decide)
          all_goals have b8 := below_keep (D := fun k => k = hp) hB7.out k8 (fun _ h => by rw [h]; exact hh) (by have := hB7.out.size; omega)
          all_goals exact ⟨M.length / 128 + 1, o4, l.length - k, d4, some ⟨g4, 0, none⟩, c4, rfl, by rw [← hst.out.2, List.length_drop], hd4, by have := htm.out; simp; omega, fun i hi => by rw [← hst.out.2]; exact hX5.out i hi,
            by rw [← hst.out.1, ← hN3.out]; exact (W8.hs hH7.out F).setT _, (W8.hs hH7.out F).ownSet (hO6.out.keep k8 ne8).none_of 8 _, b8.setCell (p := ⟨hp, 8, none⟩) hh _⟩
  case rest =>
    have hM2 : (M ++ l).length ≤ 2199023255552 := by simp; omega
    clear hO3 hB2 hH2 c8 hz1 hfe hff hfs hO1 hH htm ht f8 hX2 hd hl hN3 t
    generalize hMe : M ++ l = M2 at hcut hM2
    replace hMe := Lib.hid hMe
    obtain ⟨i0, hi0, hz0, hz1, hz2⟩ := info_parts inf5
    go_wp2_with fail
    go_loopw [1] (fun s1 wr => WrLoop w B hp kb b M2 s1 wr) (fun s1 _ => lenV s1)
    case atStart => exact hcut
    case round =>
      clear hcut
      obtain ⟨j, o2, n2, d2, A2, c2, rfl, hn2, hnd, hj, hX, hH, hO, hB3⟩ := hrel
      replace hX := Lib.hid hX
      replace hO := Lib.hid hO
      replace hB3 := Lib.hid hB3
      rcases Nat.lt_or_ge n2 128 with h7 | h7
      · have c8 : wr.cell? ⟨hp, 8, none⟩ = some (.slice A2 0 c2) := cell_of hH.hh rfl
        have hbs : Hid (Bs wr (some ⟨b, o2, none⟩) (M2.drop (128 * j))) := Lib.hid ((Bs.arr (w := w) (fun i hi => hX.out i (by omega))).below hB3.out (fun a ha => by cases ha; exact hb))
        have he := Lib.hid (feed_end hj (by omega))
        generalize absN H0 M2 j = st at hH he
        generalize M2.drop (128 * j) = bs at hn2 hX hbs he
        have hsz := hB3.out.size
        replace hH := Lib.hid hH
        go_wp2_with (at_builtin; go_must (refine wpList_append_bs _ rfl _ _ 22 rfl B i0 Tryd.underlying22 hi0 hz0 hz1 hz2 A2 0 c2 [] rfl rfl hO.out (some ⟨b, o2, none⟩) n2 d2 bs hn2.symm rfl hbs.out ?q1 ?q2 ?_))
        case q1 => simp; omega
        case q2 => omega
        intro A3 c3 w3 hO3 hg3 hat3
        have hH3 := hH.out.grew hO.out hg3
        have e8 : w3.cell? ⟨hp, 8, none⟩ = some (.slice A2 0 c2) := cell_of hH3.hh rfl
        have f8 : w3.frozen? ⟨hp, 8, none⟩ = false := free_of hH3.hh
        have hB4 := Lib.hid (below_grew hB3.out hO.out (Nat.le_refl _) (by omega) hg3)
        replace hH3 := Lib.hid hH3
        replace hO3 := Lib.hid hO3
        clear hg3 hat3 hO hH hbs hX
        go_wp2_with fail
        go_end0
        refine ⟨rfl, ⟨A3, c3, ?_, ?_⟩, hB4.out.setCell (p := ⟨hp, 8, none⟩) hh _⟩
        · rw [hMe.out, ← he.out.1, ← he.out.2]
          exact hH3.out.setT _
        · rw [hMe.out, ← he.out.2]
          exact hH3.out.ownSet hO3.out 8 _
      · have hlt : 128 * (j + 1) ≤ M2.length := by simp at hn2; omega
        have hd2 : (128 : Int) ≤ (d2 : Int) := by omega
        have hst := feed_step (M := M2) j
        have hlen : ((M2.drop (128 * j)).take 128).length = 128 := by simp; omega
        have hbs : Hid (∀ i, i < 128 → w.cell? ⟨b, o2 + i, none⟩ = some (B8 (((M2.drop (128 * j)).take 128).getD i 0))) := Lib.hid (fun i hi => by rw [getD_take _ hi]; exact hX.out i (by omega))
        have hX2 : Hid (∀ i, i < n2 - 128 → w.cell? ⟨b, o2 + 128 + i, none⟩ = some (B8 ((M2.drop (128 * (j + 1))).getD i 0))) := Lib.hid (fun i hi => by rw [← hst.2, getD_drop, Nat.add_assoc]; exact hX.out (128 + i) (by omega))
        have hn3 : n2 - 128 = (M2.drop (128 * (j + 1))).length := by rw [← hst.2, List.length_drop, ← hn2]
        replace hst := Lib.hid hst.1
        replace hn2 := Lib.hid hn2
        replace hn3 := Lib.hid hn3
        generalize absN H0 M2 j = st at hst hH
        generalize (M2.drop (128 * j)).take 128 = bs at hst hlen hbs
        obtain ⟨F, hF⟩ : ∃ F, blockF st bs = F := ⟨_, rfl⟩
        rw [hF] at hst
        replace hF := Lib.hid hF
        have z : ∀ j : Nat, ∀ v, #[U st.a, U st.b, U st.c, U st.d, U st.e, U st.f, U st.g, U st.h, .slice A2 0 c2, U (UInt64.ofNat M2.length), .pointer (some ⟨kb, 0, none⟩)][j]? = some v → wr.cell? ⟨hp, j, none⟩ = some v := fun j v h => cell_of hH.hh h
        have z0 := z 0 _ rfl
        have z1 := z 1 _ rfl
        have z2 := z 2 _ rfl
        have z3 := z 3 _ rfl
        have z4 := z 4 _ rfl
        have z5 := z 5 _ rfl
        have z6 := z 6 _ rfl
        have z7 := z 7 _ rfl
        have z10 := z 10 _ rfl
        clear z hX
        replace hH := Lib.hid hH
        go_wp2_with fail
        go_region_law (go_simp; go_at_call 101
                       refine (block_st st b o2 d2 kb bs _ hlen ?_ ?_ F hF.out).mono ?_
                       · exact fun j hj => (Below.cell (Below.drew hB3.out) (p := ⟨b, o2 + j, none⟩) hb).trans (hbs.out j hj)
                       · exact hH.out.kcell
                       rintro e w5 ⟨rfl, hB6⟩
                       have hH6 := hH.out.on (later (Below.refl _ _).drew hB6)
                       have y : ∀ j : Nat, ∀ v, #[U st.a, U st.b, U st.c, U st.d, U st.e, U st.f, U st.g, U st.h, .slice A2 0 c2, U (UInt64.ofNat M2.length), .pointer (some ⟨kb, 0, none⟩)][j]? = some v → w5.cell? ⟨hp, j, none⟩ = some v := fun j v h => cell_of hH6.hh h
                       have y0 := y 0 _ rfl
                       have y1 := y 1 _ rfl
                       have y2 := y 2 _ rfl
                       have y3 := y 3 _ rfl
                       have y4 := y 4 _ rfl
                       have y5 := y 5 _ rfl
                       have y6 := y 6 _ rfl
                       have y7 := y 7 _ rfl
                       have yf : ∀ o, w5.frozen? ⟨hp, o, none⟩ = false := fun o => free_of hH6.hh
                       have hO6 := Lib.hid (hO.out.on (later (Below.refl _ _).drew hB6))
                       have hB7 := Lib.hid (below_keep hB3.out (Keep.of_below (D := fun _ => False) (later (Below.refl _ _).drew hB6)) (fun _ h => h.elim) (by have := hB3.out.size; omega))
                       have hH7 := Lib.hid hH6
                       clear hH6 hB6 y)
        all_goals go_wp2_with fail
        all_goals have hHz := Lib.hid (W8.hs hH7.out F)
        all_goals have hOz := Lib.hid (hO6.out.keep (W8.keep w5 hp F) (hO6.out.ne hH7.out.hh (by decide)))
        all_goals have hBz := Lib.hid (below_keep (D := fun k => k = hp) hB7.out (W8.keep w5 hp F) (fun _ h => by rw [h]; exact hh) (by have := hB7.out.size; omega))
        all_goals obtain ⟨o3, ho3, ho4⟩ := cut128 b o2 hnd
        all_goals rw [ho3]
        all_goals exact ⟨⟨j + 1, o3, n2 - 128, d2 - 128, A2, c2, rfl, hn3.out, by omega, hlt, fun i hi => by rw [ho4 (by omega)]; exact hX2.out i hi, by rw [← hst]; exact hHz.out, hOz.out, hBz.out⟩, by simp [lenV]; omega⟩
end Go.Proofs.YtmnmmabhmedioaaDoor
