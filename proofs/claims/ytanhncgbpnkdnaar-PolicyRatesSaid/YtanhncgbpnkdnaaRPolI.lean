/- Look, and the example works(). -/
import Derived.Test.YtanhncgbpnkdnaaRPolH
namespace Go.Proofs.YtanhncgbpnkdnaaR
open Go.RowKit
set_option linter.unusedVariables false
set_option linter.unusedSimpArgs false

/-- What Look shows of Passed. -/
def LookPost (w : World) (now passed : Int) (e : Ending) (w' : World) : Prop :=
  ∃ n1 n2 g c g2 c2, e = .returned (.agg #[.int .i64 n1, .slice (some ⟨g, 0, none⟩) 1 c, .slice (some ⟨g2, 0, none⟩) 1 c2, .int .i64 n2]) ∧ w'.cell? ⟨g, 0, none⟩ = some (.int .i64 passed) ∧ Below w.heap.size w w'

theorem len_empty (w : World) (M : Nat) (h : w.heap[M]? = some (.map #[] 0)) : (Builtin.len_ #[47] 3 #[.map (some M)]).run Try.prog w = .ok (.int .i64 0) w := by
  have hg : (getObj M).run Try.prog w = .ok (.map #[] 0) w := by simp [getObj, Sem.run, h]
  simp [Builtin.len_, run_underlying Try.underlying47, hg]
  rfl

/-- Behind the first append. -/
def LookA (L : Nat) (now passed : Int) (wc wx : World) : Prop :=
  ∃ g c, wx.heap[L]? = some (.cells #[.int .i64 now, .slice (some ⟨g, 0, none⟩) 1 c, .slice none 0 0, .int .i64 0] 35 (0, 0)) ∧ wx.cell? ⟨g, 0, none⟩ = some (.int .i64 passed) ∧ wc.heap.size ≤ g ∧ Keep (fun k => k = L) wc wx
/-- Behind the second. -/
def LookB (L : Nat) (now passed : Int) (wc wx : World) : Prop :=
  ∃ g c g2 c2, wx.heap[L]? = some (.cells #[.int .i64 now, .slice (some ⟨g, 0, none⟩) 1 c, .slice (some ⟨g2, 0, none⟩) 1 c2, .int .i64 0] 35 (0, 0)) ∧ wx.cell? ⟨g, 0, none⟩ = some (.int .i64 passed) ∧ Keep (fun k => k = L) wc wx
theorem lookA_end {L g c : Nat} {now passed : Int} {wc w7 : World} (hL : wc.heap[L]? = some (.cells #[.int .i64 now, .slice none 0 0, .slice none 0 0, .int .i64 0] 35 (0, 0))) (hk : Keep (fun _ => False) wc w7)
    (hown : w7.ownsRow wc.heap.size 3 1 (.slice (some ⟨g, 0, none⟩) 1 c) 1 ([passed].map (.int .i64))) : LookA L now passed wc (w7.setCell ⟨L, 1, none⟩ (.slice (some ⟨g, 0, none⟩) 1 c)) := by
  have hg := (hown.lt g rfl).1
  have hl := heap_lt hL
  refine ⟨g, c, heap_set (hk.heap id hL) _, ?_, hg, (hk.mono fun _ _ h => h.elim).trans (Keep.set _ L 1 _ rfl)⟩
  exact (Keep.set (fun k => k = L) L 1 _ rfl).cell (by show ¬ g = L; omega) (owns_ints hown 0 (by omega))
theorem lookB_end {L g c g2 c2 : Nat} {now passed y : Int} {w7 w8 : World} (hL : w7.heap[L]? = some (.cells #[.int .i64 now, .slice (some ⟨g, 0, none⟩) 1 c, .slice none 0 0, .int .i64 0] 35 (0, 0))) (hp : w7.cell? ⟨g, 0, none⟩ = some (.int .i64 passed)) (hgL : g ≠ L)
    (hk : Keep (fun _ => False) w7 w8) : LookB L now passed w7 (w8.setCell ⟨L, 2, none⟩ (.slice (some ⟨g2, 0, none⟩) 1 c2)) := by
  refine ⟨g, c, g2, c2, heap_set (hk.heap id hL) _, ?_, (hk.mono fun _ _ h => h.elim).trans (Keep.set _ L 2 _ rfl)⟩
  exact (Keep.set (fun k => k = L) L 2 _ rfl).cell hgL (hk.cell id hp)

def LookMid (w : World) (now : Int) (s3 : Value) (wx : World) : Prop :=
  ∃ L, s3 = .pointer (some ⟨L, 0, none⟩) ∧ wx.heap[L]? = some (.cells #[.int .i64 now, .slice none 0 0, .slice none 0 0, .int .i64 0] 35 (0, 0)) ∧ w.heap.size < L ∧ Below w.heap.size w wx ∧
    wx.heap[w.heap.size]? = some (.cells #[.int .i64 0, .slice none 0 0, .slice none 0 0, .int .i64 0] 35 (0, 0))

set_option maxRecDepth 100000 in
set_option maxHeartbeats 4000000 in
theorem look_any (w : World) (p R S C M g cr pc xc B : Nat) (pp xa : Option Addr) (pfx : List Int) (rate window now passed : Int) (rec : List Int)
    (hF : Full w p R S C M g cr pc xc B pp xa pfx rate window now passed rec) :
    Calls Try.prog 8 #[.pointer (some ⟨p, 0, none⟩)] w (LookPost w now passed) := by
  obtain ⟨p0, p1, p3, p5, p6, r0, r1, r2, r3, r4, r5, hpfx, c0, m0, rl, rx, n0, n1, rb⟩ := hF.rd
  have p4 := hF.p4
  have s0 := hF.s0
  have hF := Lib.hid hF
  clear rx rb
  obtain ⟨i0, hi0, hz0, hz1, hz2⟩ := info_parts info3
  have lp : p < w.heap.size := cell_lt p0
  have lM : M < w.heap.size := heap_lt m0
  go_enter Try.func8, Try.ntmps8
  go_wp2_with fail
  refine (unmade_no _ p (cell_on ((Below.refl _ _).alloc (Nat.le_refl _) _) p0)).mono ?_
  rintro e w' ⟨rfl, rfl⟩
  go_upto_region 3 with fail
  go_cut [3] (fun s3 wx => LookMid w now s3 wx)
  case first =>
    have hlen1 := len_empty (w.alloc (Obj.cells #[Value.int IntKind.i64 0, Value.slice none 0 0, Value.slice none 0 0, Value.int IntKind.i64 0] 35)).drew M (heap_on (((Below.refl _ _).alloc (Nat.le_refl _) _).drew) m0)
    have hlen2 := len_empty ((w.alloc (Obj.cells #[Value.int IntKind.i64 0, Value.slice none 0 0, Value.slice none 0 0, Value.int IntKind.i64 0] 35)).alloc (Obj.cells #[Value.int IntKind.i64 0, Value.slice none 0 0, Value.slice none 0 0, Value.int IntKind.i64 0] 35)).drew M (heap_on ((((Below.refl _ _).alloc (Nat.le_refl _) _).alloc (by simp) _).drew) m0)
    go_region
    all_goals (go_wp2_with fail; go_meet)
    all_goals clear hlen1 hlen2
    all_goals exact ⟨_, rfl, by show (World.alloc _ _).heap[_]? = _; rw [heap_alloc?, if_pos (by simp)], by omega, (((Below.refl _ _).alloc (Nat.le_refl _) _).alloc (by simp) _).drew, by show (World.alloc _ _).heap[_]? = _; rw [Below.heap_alloc _ _ _ (by simp), heap_alloc?, if_pos rfl]⟩
  case rest =>
    obtain ⟨L, rfl, hL, hLw, hB, hZ⟩ := hcut
    have q1 := cell_on hB p1
    have q3 := cell_on hB p3
    have q4 := cell_on hB p4
    have qs := cell_on hB s0
    have hR := Lib.hid (hF.out.rd.on hB)
    have l0 : wc.cell? ⟨L, 0, none⟩ = some (.int .i64 now) := cell_of hL rfl
    have l1 : wc.cell? ⟨L, 1, none⟩ = some (.slice none 0 0) := cell_of hL rfl
    have l2 : wc.cell? ⟨L, 2, none⟩ = some (.slice none 0 0) := cell_of hL rfl
    have l3 : wc.cell? ⟨L, 3, none⟩ = some (.int .i64 0) := cell_of hL rfl
    have lf : ∀ o, wc.frozen? ⟨L, o, none⟩ = false := fun o => free_of hL
    have lL : L < wc.heap.size := heap_lt hL
    clear p0 p1 p3 p5 p6 r0 r1 r2 r3 r4 r5 hpfx c0 m0 p4 s0
    go_wp2
    refine wp_loop_rounds 2 ?_
    rw [rounds_succ]
    go_upto_region 7 with fail
    go_cut [36] (fun s36 wx => LookA L now passed wc wx)
    case first =>
      go_region_law (first
      | (refine step_append_lies _ (by rfl) _ _ _ (by rfl) wc.heap.size 3 i0 _ 1 8 Try.underlying22 hi0 hz0 hz1 hz2 (by rfl) (by omega) (.slice none 0 0) 0 [] (by rfl) (World.ownsRow_nil _ _ _ _)
            ⟨wc.heap.size, 0, none⟩ 1 1 [.int .i64 passed] (by rfl) (by rfl)
            (World.news_of_block (cs := #[.int .i64 passed]) (t := 3) (fr := (0, 0)) (heap_alloc_new wc _)) (by simp [Value.oneCell']) (by omega) (by unfold maxLen; omega) (by omega) (by simp) (wc.heap.size + 1) (by simp) ?_
         intro g7 c7 w7 hown7 hgrow7 hat7 hlt7
         have hk7 : Keep (fun _ => False) wc w7 := ((Keep.alloc _).trans Keep.drew).trans (Keep.grown hgrow7 (fun _ h => by cases h))
         have l17 := hk7.cell id l1
         have lf7 : ∀ o, w7.frozen? ⟨L, o, none⟩ = false := fun o => hk7.free id lL (lf o)
         have q47 := hk7.cell id q4
         have qs7 := hk7.cell id qs
         have lL7 : L < w7.heap.size := cell_lt l17))
      all_goals (go_wp2_with fail; go_meet)
      all_goals exact lookA_end hL hk7 hown7
    case rest =>
      obtain ⟨g7, c7, hL7, hg7, hne7, hk7⟩ := hcut
      have hnL : ¬ p = L ∧ ¬ R = L ∧ ¬ C = L ∧ ¬ M = L := by
        have := heap_lt hF.out.rd.m0; have := cell_lt hF.out.rd.c0; have := cell_lt hF.out.rd.r0; have := cell_lt hF.out.rd.p0; simp at *; omega
      have hR7 := Lib.hid (hR.out.keep hk7 hnL.1 hnL.2.1 hnL.2.2.1 hnL.2.2.2 (fun a ha => by have := hF.out.ppB a ha; have := hF.out.Bw; show ¬ a.block = L; omega) (fun h => by have := (hF.out.own.lt g (by rw [(hF.out.rd.rx h).1]; rfl)).2; show ¬ g = L; omega))
      clear q1 q3 q4 qs l0 l1 l2 l3 lf lL
      obtain ⟨wA, rfl⟩ : ∃ x, x = wc := ⟨_, rfl⟩
      have l0 : wA.cell? ⟨L, 0, none⟩ = some (.int .i64 now) := cell_of hL7 rfl
      have l1 : wA.cell? ⟨L, 1, none⟩ = some (.slice (some ⟨g7, 0, none⟩) 1 c7) := cell_of hL7 rfl
      have l2 : wA.cell? ⟨L, 2, none⟩ = some (.slice none 0 0) := cell_of hL7 rfl
      have lf : ∀ o, wA.frozen? ⟨L, o, none⟩ = false := fun o => free_of hL7
      have lL : L < wA.heap.size := heap_lt hL7
      have hZA := hk7.heap (by show ¬ w.heap.size = L; omega) hZ
      have l3 : wA.cell? ⟨L, 3, none⟩ = some (.int .i64 0) := cell_of hL7 rfl
      have lA2 : ∀ o nq, ((wA.drewN nq).alloc o).cell? ⟨L, 2, none⟩ = some (.slice none 0 0) := fun o nq => Keep.cell (D := fun _ => False) ((Keep.drewN nq).trans (Keep.alloc o)) id l2
      go_upto_region 8 with fail
      go_region_law (first
      | (refine step_append_lies _ (by rfl) _ _ _ (by rfl) wA.heap.size 3 i0 _ 1 8 Try.underlying22 hi0 hz0 hz1 hz2 (by rfl) (by omega) (.slice none 0 0) 0 [] (by rfl) (World.ownsRow_nil _ _ _ _)
            ⟨wA.heap.size, 0, none⟩ 1 1 [.int .i64 (inWin now window rec).length] (by rfl) (by rfl)
            (World.news_of_block (cs := #[.int .i64 (inWin now window rec).length]) (t := 3) (fr := (0, 0)) (heap_alloc_new (wA.drewN (1 + nd)) _)) (by simp [Value.oneCell']) (by omega) (by unfold maxLen; omega) (by omega) (by simp) (wA.heap.size + 1) (by simp) ?_
         intro g8 c8 w8 hown8 hgrow8 hat8 hlt8
         have hk8 : Keep (fun _ => False) wA w8 := ((Keep.drewN (1 + nd)).trans (Keep.alloc _)).trans (Keep.grown hgrow8 (fun _ h => by cases h))
         have l28 := hk8.cell id l2
         have l08 := hk8.cell id l0
         have l18 := hk8.cell id l1
         have l38 := hk8.cell id l3
         have z0 : w8.cell? ⟨w.heap.size, 0, none⟩ = some (.int .i64 0) := cell_of (hk8.heap id hZA) rfl
         have z1 : w8.cell? ⟨w.heap.size, 1, none⟩ = some (.slice none 0 0) := cell_of (hk8.heap id hZA) rfl
         have z2 : w8.cell? ⟨w.heap.size, 2, none⟩ = some (.slice none 0 0) := cell_of (hk8.heap id hZA) rfl
         have z3 : w8.cell? ⟨w.heap.size, 3, none⟩ = some (.int .i64 0) := cell_of (hk8.heap id hZA) rfl
         have zf : ∀ o, w8.frozen? ⟨w.heap.size, o, none⟩ = false := fun o => free_of (hk8.heap id hZA)
         have lf8 : ∀ o, w8.frozen? ⟨L, o, none⟩ = false := fun o => hk8.free id lL (lf o)
         have lL8 : L < w8.heap.size := cell_lt l28)
      | (go_simp; go_at_call 16; refine (inWindow_of _ p R C M g cr pc xc pp xa pfx rate window now rec (hR7.out.on ?_)).mono ?_; exact (Below.refl _ _).drew; rintro e w' ⟨rfl, nd, rfl⟩))
      all_goals go_wp2
      all_goals rw [rounds_succ]
      all_goals go_wp2
      all_goals have hlL := heap_lt hL
      all_goals have hl8 := Nat.le_trans hk7.size hk8.size
      all_goals refine bodyPost_ret (v := .agg #[.int .i64 now, .slice (some ⟨g7, 0, none⟩) 1 c7, .slice (some ⟨g8, 0, none⟩) (0 + 1) c8, .int .i64 0]) (by simp [results, Try.results8, go_sem, *]) rfl ⟨now, 0, g7, c7, g8, c8, rfl, ?_, ?_⟩
      all_goals first
        | exact (((((Keep.set (fun k => k = L ∨ k = w.heap.size) L 2 _ (.inl rfl)).trans (Keep.set _ w.heap.size 0 _ (.inr rfl))).trans (Keep.set _ w.heap.size 1 _ (.inr rfl))).trans (Keep.set _ w.heap.size 2 _ (.inr rfl))).trans (Keep.set _ w.heap.size 3 _ (.inr rfl))).cell (by show ¬ (g7 = L ∨ g7 = w.heap.size); omega) (hk8.cell id hg7)
        | exact Keep.below (((((((((Keep.of_below hB).trans (hk7.mono fun k _ h => by show w.heap.size ≤ k; rw [h]; omega)).trans (hk8.mono fun _ _ h => h.elim)).trans (Keep.set (fun k => w.heap.size ≤ k) L 2 _ (by show w.heap.size ≤ L; omega))).trans (Keep.set _ w.heap.size 0 _ (Nat.le_refl _))).trans (Keep.set _ w.heap.size 1 _ (Nat.le_refl _))).trans (Keep.set _ w.heap.size 2 _ (Nat.le_refl _))).trans (Keep.set _ w.heap.size 3 _ (Nat.le_refl _)))) (Nat.le_refl _)
end Go.Proofs.YtanhncgbpnkdnaaR
