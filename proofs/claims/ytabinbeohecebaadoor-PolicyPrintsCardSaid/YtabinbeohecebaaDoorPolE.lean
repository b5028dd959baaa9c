/- Pass: what is let go is noted. -/
import Derived.Test.YtabinbeohecebaaDoorPolD
import Derived.Deep.RegionHeld3
import Derived.Deep.AppendLies
import Derived.StillTactics
import Derived.Deep.RegionLaw
import Derived.Deep.DeepMust
namespace Go.Proofs.YtabinbeohecebaaDoor
open Go.RowKit
set_option linter.unusedVariables false
set_option linter.unusedSimpArgs false
set_option maxRecDepth 100000

theorem info3 : (Tryd.prog.info? 3).map (fun i => (i.zero, i.size, i.bytes)) = some (some (.int .i64 0), 1, 8) := by kernel_rfl

/-- What Pass reads and writes besides. -/
structure Full (w : World) (p R S C M g cr pc xc B : Nat) (pp xa : Option Addr) (pfx : List Int) (rate window now passed : Int) (rec : List Int) : Prop where
  rd : Reads w p R C M g cr pc xc pp xa pfx rate window now rec
  p4 : w.cell? ⟨p, 4, none⟩ = some (.slice (some ⟨S, 0, none⟩) 1 1)
  s0 : w.cell? ⟨S, 0, none⟩ = some (.int .i64 passed)
  fP : w.frozen? ⟨p, 3, none⟩ = false
  fS : w.frozen? ⟨S, 0, none⟩ = false
  fC : w.frozen? ⟨C, 0, none⟩ = false
  own : w.ownsRow B 3 1 (.slice xa rec.length xc) rec.length (rec.map (.int .i64))
  Bw : B ≤ w.heap.size
  pB : p < B
  RB : R < B
  SB : S < B
  CB : C < B
  MB : M < B
  ppB : ∀ a, pp = some a → a.block < B
  pS : p ≠ S
  pC : p ≠ C
  RS : R ≠ S
  RC : R ≠ C
  Rp : R ≠ p
  SC : S ≠ C
  MS : M ≠ S
  MC : M ≠ C
  Mp : M ≠ p
  pps : ∀ a, pp = some a → a.block ≠ S ∧ a.block ≠ C ∧ a.block ≠ p
  ps0 : 0 ≤ passed
  ps1 : passed ≤ 2 ^ 61

theorem Reads.keep {D : Nat → Prop} {w w' : World} {p R C M g cr pc xc : Nat} {pp xa : Option Addr} {pfx : List Int} {rate window now : Int} {rec : List Int} (hk : Keep D w w')
    (h : Reads w p R C M g cr pc xc pp xa pfx rate window now rec) (h1 : ¬ D p) (h2 : ¬ D R) (h3 : ¬ D C) (h4 : ¬ D M) (h5 : ∀ a, pp = some a → ¬ D a.block) (h6 : 0 < rec.length → ¬ D g) : Reads w' p R C M g cr pc xc pp xa pfx rate window now rec := by
  obtain ⟨p0, p1, p3, p5, p6, r0, r1, r2, r3, r4, r5, hpfx, c0, m0, rl, rx, n0, n1, rb⟩ := h
  exact ⟨hk.cell h1 p0, hk.cell h1 p1, hk.cell h1 p3, hk.cell h1 p5, hk.cell h1 p6, hk.cell h2 r0, hk.cell h2 r1, hk.cell h2 r2, hk.cell h2 r3, hk.cell h2 r4, hk.cell h2 r5, hk.bytes h5 hpfx, hk.cell h3 c0,
    hk.heap h4 m0, rl, fun h => ⟨(rx h).1, fun j hj => hk.cell (h6 h) ((rx h).2 j hj)⟩, n0, n1, rb⟩

/-- Pass of what is refused. -/
theorem pass_no (w : World) (p R C M g cr pc xc : Nat) (pp xa ta : Option Addr) (pfx text : List Int) (rate window now : Int) (rec : List Int) (tc : Nat)
    (h : Reads w p R C M g cr pc xc pp xa pfx rate window now rec) (ht : Lib.BytesIn w ta text.length text) (htc : text.length ≤ tc) (h9 : text.length ≤ 9) (hr : 0 < rate)
    (hs : says pfx text rate window now rec ≠ 0) :
    Calls Tryd.prog 19 #[.pointer (some ⟨p, 0, none⟩), .slice ta text.length tc] w fun e w' =>
      e = .returned (.int .i64 (says pfx text rate window now rec)) ∧ Below w.heap.size w w' := by
  have hR := Lib.hid h
  clear h
  have hA := Lib.hid (asked_any w p R C M g cr pc xc pp xa ta pfx text rate window now rec tc hR.out ht htc h9 hr)
  generalize says pfx text rate window now rec = c at hA hs ⊢
  have hne : (c != 0) = true := by simpa using hs
  go_enter Tryd.func19, Tryd.ntmps19
  go_wp2_with fail
  refine hA.out.mono ?_
  rintro e w1 ⟨rfl, hB⟩
  go_wp2
  go_ret
  exact ⟨rfl, hB⟩

theorem inWin_bd {now window : Int} {rec : List Int} (hb : ∀ j, j < rec.length → 0 ≤ rec.getD j 0 ∧ rec.getD j 0 ≤ now) (h0 : 0 ≤ now) :
    ∀ j, j < (inWin now window rec ++ [now]).length → 0 ≤ (inWin now window rec ++ [now]).getD j 0 ∧ (inWin now window rec ++ [now]).getD j 0 ≤ now := by
  intro j hj
  have hm : (inWin now window rec ++ [now]).getD j 0 ∈ inWin now window rec ++ [now] := by
    rw [List.getD_eq_getElem?_getD, List.getElem?_eq_getElem hj]; exact List.getElem_mem hj
  generalize (inWin now window rec ++ [now]).getD j 0 = x at hm
  rcases List.mem_append.1 hm with h | h
  · obtain ⟨i, hi, rfl⟩ := List.getElem_of_mem (List.mem_filter.1 h).1
    have := hb i hi
    rw [List.getD_eq_getElem?_getD, List.getElem?_eq_getElem hi] at this
    exact this
  · simp at h; subst h; exact ⟨h0, Int.le_refl _⟩

theorem pass_end {w w1 w2 wr w3 : World} {p R S C M g cr pc xc B gg cap : Nat} {pp xa : Option Addr} {pfx : List Int} {rate window now passed : Int} {rec : List Int} {o : Obj} {row : Option Nat}
    (hF : Full w p R S C M g cr pc xc B pp xa pfx rate window now passed rec) (hB : Below w.heap.size w w1) (hK2 : Keep (fun k => k = S) w1 w2) (hR2 : Reads w2 p R C M g cr pc xc pp xa pfx rate window now rec)
    (hS2 : w2.cell? ⟨S, 0, none⟩ = some (.int .i64 (passed + 1))) (hfS2 : w2.frozen? ⟨S, 0, none⟩ = false) (hfC2 : w2.frozen? ⟨C, 0, none⟩ = false) (hBr : Below w2.heap.size w2 wr) (hgrow : ((wr.alloc o).drew).grownBy w3 row)
    (hrow : ∀ k, row = some k → w2.heap.size ≤ k) (hl : (inWin now window rec).length < 2 ^ 40) (hps : passed + 1 ≤ 2 ^ 61)
    (hown3 : w3.ownsRow w2.heap.size 3 1 (.slice (some ⟨gg, 0, none⟩) ((inWin now window rec).length + 1) cap) ((inWin now window rec).length + 1) ((inWin now window rec).map (.int .i64) ++ [.int .i64 now])) :
    Keep (fun k => k = S ∨ k = C) w (w3.setCell ⟨C, 0, none⟩ (.slice (some ⟨gg, 0, none⟩) ((inWin now window rec).length + 1) cap)) ∧
    ∃ g' xc', w.heap.size ≤ g' ∧ Full (w3.setCell ⟨C, 0, none⟩ (.slice (some ⟨gg, 0, none⟩) ((inWin now window rec).length + 1) cap)) p R S C M g' cr pc xc' B pp (some ⟨g', 0, none⟩) pfx rate window now (passed + 1) (inWin now window rec ++ [now]) := by
  have hz2 : w.heap.size ≤ w2.heap.size := Nat.le_trans hB.size hK2.size
  have k23 : Keep (fun k => w2.heap.size ≤ k) w2 w3 := ((Keep.of_below hBr).trans ((Keep.alloc o).trans Keep.drew)).trans (Keep.grown hgrow hrow)
  obtain ⟨v, hv⟩ : ∃ v : Value, v = .slice (some ⟨gg, 0, none⟩) ((inWin now window rec).length + 1) cap := ⟨_, rfl⟩
  rw [← hv]
  have k3 : Keep (fun k => k = C) w3 (w3.setCell ⟨C, 0, none⟩ v) := Keep.setCell (D := fun k => k = C) (a := ⟨C, 0, none⟩) rfl v
  have hlt : ∀ {b : Nat}, b < w2.heap.size → ¬ b = C → ¬ (b = C ∨ w2.heap.size ≤ b) := fun h1 h2 h => h.elim h2 (fun h => by omega)
  have k24 : Keep (fun k => k = C ∨ w2.heap.size ≤ k) w2 (w3.setCell ⟨C, 0, none⟩ v) := (k23.mono fun _ _ h => .inr h).trans (k3.mono fun _ _ h => .inl h)
  obtain ⟨p0, p1, p3, p5, p6, r0, r1, r2, r3, r4, r5, hpfx, c0, m0, rl, rx, n0, n1, rb⟩ := hR2
  have hCs : C < w2.heap.size := cell_lt c0
  have hps2 : p < w2.heap.size := cell_lt p0
  have hRs : R < w2.heap.size := cell_lt r0
  have hSs : S < w2.heap.size := cell_lt hS2
  have hMs : M < w2.heap.size := heap_lt m0
  have hggC : ¬ gg = C := fun e => by have := (hown3.lt gg rfl).1; omega
  have c3 := k23.cell (a := ⟨C, 0, none⟩) (by show ¬ w2.heap.size ≤ C; omega) c0
  have hB0 : B ≤ w2.heap.size := Nat.le_trans hF.Bw hz2
  have hown' : (w3.setCell ⟨C, 0, none⟩ v).ownsRow B 3 1 v (inWin now window rec ++ [now]).length ((inWin now window rec ++ [now]).map (.int .i64)) := by
    have := k3.owns (fun k hk => by rw [hv] at hk; simp [Value.ownBlock] at hk; subst hk; exact hggC) (hv ▸ hown3)
    obtain ⟨h1, h2⟩ := this
    refine ⟨by simp, ?_⟩
    rcases h2 with ⟨_, h0⟩ | ⟨g1, cap1, cur, e1, e2, e3, e4, e5, e6, e7⟩
    · omega
    · exact .inr ⟨g1, cap1, cur, by simpa using e1, by omega, e3, by simpa using e4, e5, e6, by simpa using e7⟩
  have kw : Keep (fun k => k = S ∨ k = C ∨ w2.heap.size ≤ k) w (w3.setCell ⟨C, 0, none⟩ v) :=
    ((Keep.of_below hB).trans (hK2.mono fun _ _ h => .inl h)).trans (k24.mono fun _ _ h => .inr h)
  refine ⟨kw.mono fun k hk h => ?_, gg, cap, by have := (hown3.lt gg rfl).1; omega, ?_⟩
  · rcases h with h | h | h
    · exact .inl h
    · exact .inr h
    · omega
  · have kp : ∀ {x : Nat} {u : Value}, w2.cell? ⟨p, x, none⟩ = some u → (w3.setCell ⟨C, 0, none⟩ v).cell? ⟨p, x, none⟩ = some u := fun h => k24.cell (hlt hps2 hF.pC) h
    have kR : ∀ {x : Nat} {u : Value}, w2.cell? ⟨R, x, none⟩ = some u → (w3.setCell ⟨C, 0, none⟩ v).cell? ⟨R, x, none⟩ = some u := fun h => k24.cell (hlt hRs hF.RC) h
    have hkc : ∀ j u, ((inWin now window rec ++ [now]).map (Value.int .i64))[j]? = some u → (w3.setCell ⟨C, 0, none⟩ v).cell? ((⟨gg, 0, none⟩ : Addr).add j) = some u := hown'.cells (by rw [hv]; rfl)
    have rd' : Reads (w3.setCell ⟨C, 0, none⟩ v) p R C M gg cr pc cap pp (some ⟨gg, 0, none⟩) pfx rate window now (inWin now window rec ++ [now]) := by
      refine ⟨kp p0, kp p1, kp p3, kp p5, kp p6, kR r0, kR r1, kR r2, kR r3, kR r4, kR r5, ?_, ?_, ?_, by simp; omega, fun _ => ⟨rfl, fun j hj => ?_⟩, n0, n1, inWin_bd rb n0⟩
      · refine k24.bytes (fun a ha h => ?_) hpfx
        rcases h with h | h
        · exact (hF.pps a ha).2.1 h
        · have := hF.ppB a ha; omega
      · rw [World.cell?_setCell_same _ _ _ c3, hv]; simp
      · exact k24.heap (hlt hMs hF.MC) m0
      · have := hkc j (.int .i64 ((inWin now window rec ++ [now]).getD j 0)) (by rw [List.getElem?_map, List.getD_eq_getElem?_getD, List.getElem?_eq_getElem hj]; rfl)
        rw [Go.WideShapes.add_plain, Nat.zero_add] at this
        exact this
    have p4 : w2.cell? ⟨p, 4, none⟩ = some (.slice (some ⟨S, 0, none⟩) 1 1) := hK2.cell hF.pS (cell_on hB hF.p4)
    refine ⟨rd', kp p4, k24.cell (hlt hSs hF.SC) hS2, ?_, k24.free (hlt hSs hF.SC) hSs hfS2, ?_, ?_, by have := k24.size; omega, hF.pB, hF.RB, hF.SB, hF.CB, hF.MB, hF.ppB, hF.pS, hF.pC, hF.RS, hF.RC, hF.Rp, hF.SC, hF.MS, hF.MC, hF.Mp, hF.pps, by have := hF.ps0; omega, hps⟩
    · exact k24.free (hlt hps2 hF.pC) hps2 (hK2.free hF.pS (Nat.lt_of_lt_of_le (cell_lt hF.rd.p3) hB.size) (free_on hB (cell_lt hF.rd.p3) hF.fP))
    · rw [World.frozen?_setCell]
      exact k23.free (by show ¬ w2.heap.size ≤ C; omega) hCs hfC2
    · rw [hv] at hown'; rw [hv]; simpa using hown'

set_option maxHeartbeats 4000000 in
theorem pass_yes (w : World) (p R S C M g cr pc xc B : Nat) (pp xa ta : Option Addr) (pfx text : List Int) (rate window now passed : Int) (rec : List Int) (tc : Nat)
    (hF : Full w p R S C M g cr pc xc B pp xa pfx rate window now passed rec) (ht : Lib.BytesIn w ta text.length text) (htc : text.length ≤ tc) (h9 : text.length ≤ 9) (hr : 0 < rate)
    (hs : says pfx text rate window now rec = 0) (hl : (inWin now window rec).length < 2 ^ 40) (hps : passed + 1 ≤ 2 ^ 61) :
    Calls Tryd.prog 19 #[.pointer (some ⟨p, 0, none⟩), .slice ta text.length tc] w fun e w' =>
      e = .returned (.int .i64 0) ∧ Keep (fun k => k = S ∨ k = C) w w' ∧ ∃ g' xc', w.heap.size ≤ g' ∧ Full w' p R S C M g' cr pc xc' B pp (some ⟨g', 0, none⟩) pfx rate window now (passed + 1) (inWin now window rec ++ [now]) := by
  have hA := Lib.hid (asked_any w p R C M g cr pc xc pp xa ta pfx text rate window now rec tc hF.rd ht htc h9 hr)
  rw [hs] at hA
  have hF := Lib.hid hF
  clear hs
  go_enter Tryd.func19, Tryd.ntmps19
  go_wp2_with fail
  refine hA.out.mono ?_
  rintro e w1 ⟨rfl, hB⟩
  have hR1 := Lib.hid (hF.out.rd.on hB)
  obtain ⟨p0, p1, p3, p5, p6, r0, r1, r2, r3, r4, r5, hpfx, c0, m0, rl, rx, n0, n1, rb⟩ := hR1.out
  clear rx rb
  have p4 := cell_on hB hF.out.p4
  have s0 := cell_on hB hF.out.s0
  have fS := free_on hB (cell_lt hF.out.s0) hF.out.fS
  have fC := free_on hB (cell_lt hF.out.rd.c0) hF.out.fC
  have q1 := hF.out.pS
  have q2 := hF.out.pC
  have q3 := hF.out.RS
  have q4 := hF.out.RC
  have q5 := hF.out.SC
  have b0 := hF.out.ps0
  have b1 := hF.out.ps1
  go_wp2
  have hK2 : Keep (fun k => k = S) w1 (w1.setCell ⟨S, 0, none⟩ (.int .i64 (passed + 1))) := Keep.setCell (D := fun k => k = S) (a := ⟨S, 0, none⟩) rfl _
  have hgS : 0 < rec.length → ¬ g = S := fun h => by
    have := hF.out.own.lt g (by rw [(hF.out.rd.rx h).1]; rfl)
    have := hF.out.SB
    omega
  have hR2 := Lib.hid (hR1.out.keep hK2 q1 q3 (fun e => q5 e.symm) hF.out.MS (fun a h => (hF.out.pps a h).1) hgS)
  have hS2 : (w1.setCell ⟨S, 0, none⟩ (.int .i64 (passed + 1))).cell? ⟨S, 0, none⟩ = some (.int .i64 (passed + 1)) := World.cell?_setCell_same _ _ _ s0
  have hfS2 : (w1.setCell ⟨S, 0, none⟩ (.int .i64 (passed + 1))).frozen? ⟨S, 0, none⟩ = false := (World.frozen?_setCell _ _ _ _).trans fS
  have hfC2 : (w1.setCell ⟨S, 0, none⟩ (.int .i64 (passed + 1))).frozen? ⟨C, 0, none⟩ = false := (World.frozen?_setCell _ _ _ _).trans fC
  clear p0 p1 p3 p5 p6 r0 r1 r2 r3 r4 r5 hpfx c0 m0 p4 s0 fS fC
  generalize w1.setCell ⟨S, 0, none⟩ (.int .i64 (passed + 1)) = w2 at hK2 hR2 hS2 hfS2 hfC2 ⊢
  have hz2 : w.heap.size ≤ w2.heap.size := Nat.le_trans hB.size hK2.size
  obtain ⟨p0, p1, p3, p5, p6, r0, r1, r2, r3, r4, r5, hpfx, c0, m0, rl, rx, n0, n1, rb⟩ := hR2.out
  have hX := Lib.hid rx
  have hRB := Lib.hid rb
  clear rx rb p0 p6 r0 r1 r2 r3 r4 hpfx m0
  obtain ⟨i0, hi0, hz0, hz1, hz2'⟩ := info_parts info3
  go_loopw [7, 9, 45] (fun v t i wr => ∃ k : Nat, k ≤ rec.length ∧ i = .int .i64 k ∧ wr.ownsRow w2.heap.size 3 1 v (inWin now window (rec.take k)).length ((inWin now window (rec.take k)).map (.int .i64)) ∧ Below w2.heap.size w2 wr) (fun _ _ i _ => rec.length - (intOf i).toNat)
  case atStart => exact ⟨0, Nat.zero_le _, rfl, World.ownsRow_nil _ _ _ _, Below.refl _ _⟩
  case round =>
    obtain ⟨k, hk, rfl, hown, hBr⟩ := hrel
    have hle : (inWin now window (rec.take k)).length ≤ k := Nat.le_trans (inWin_le _ _ _) (List.length_take_le _ _)
    have hown := Lib.hid hown
    by_cases hlt : k < rec.length
    · obtain ⟨rfl, hcell⟩ := hX.out (by omega)
      have hck := cell_on hBr (hcell k hlt)
      have hp3 := cell_on hBr p3
      have hp1 := cell_on hBr p1
      have hr5 := cell_on hBr r5
      have hbk := hRB.out k hlt
      have hs := Lib.hid (inWin_snoc now window rec k hlt)
      clear hcell
      obtain ⟨t, ht⟩ : ∃ t, rec.getD k 0 = t := ⟨_, rfl⟩
      rw [ht] at hck hbk hs
      clear ht
      have hwr : wrap64 (now - t) = now - t := IntWalk.wrap64_in _ ⟨by omega, by omega⟩
      by_cases h : now - t < window
      · go_wp2
        go_quiet (fail)
        clear hwr
        go_wp2_with (at_builtin; go_must (refine wpList_append_lies _ rfl _ _ 63 rfl w2.heap.size 3 i0 (.int .i64 0) 1 8 Tryd.underlying63 hi0 hz0 hz1 hz2' rfl (by decide) u7 (inWin now window (rec.take k)).length ((inWin now window (rec.take k)).map (.int .i64)) rfl (by exact Keep.owns (D := fun _ => False) ((Keep.alloc _).trans (Keep.drewN nq)) (fun _ _ => id) hown.out) ⟨wr.heap.size, 0, none⟩ 1 1 [.int .i64 t] rfl rfl ?a1 ?a2 ?a3 ?a4 ?a5 ?a6 _ rfl ?_))
        case a1 => exact news_one (cell_of (cs := #[.int .i64 t]) (T := 3) (fz := (0, 0)) (by show (wr.alloc _).heap[_]? = _; exact heap_alloc_new wr _) rfl)
        case a2 => simp [Value.oneCell']
        case a3 => omega
        case a4 => unfold maxLen; omega
        case a5 => omega
        case a6 => have := hBr.size; simp; omega
        intro g' cap w3 hown3 hgrow hat hlt3
        have hz : w2.heap.size ≤ wr.heap.size := hBr.size
        have hB3 : Below w2.heap.size w2 w3 := (below_drewN (hBr.alloc hz _) nq).grown hgrow (by simp; omega) (fun j hj => (hown.out.lt j hj).1)
        have H3 := Lib.hid hown3
        clear hown3 hgrow hat
        go_wp2
        go_roundw
        case rel => exact ⟨k + 1, by omega, by go_num, by have := H3.out; rw [hs.out, if_pos (by omega)]; simpa using this, hB3⟩
        case measure => simp [intOf]; omega
      · go_wp2
        go_quiet (fail)
        clear hwr
        go_wp2
        go_roundw
        case rel => exact ⟨k + 1, by omega, by go_num, by rw [hs.out, if_neg (by omega)]; simpa using Keep.owns (D := fun _ => False) (Keep.drewN nq) (fun _ _ => id) hown.out, below_drewN hBr nq⟩
        case measure => simp [intOf]; omega
    · have hp5 := cell_on hBr p5
      have hp3 := cell_on hBr p3
      have hc0 := cell_on hBr c0
      have hfC := free_on hBr (cell_lt c0) hfC2
      have hCl : C < wr.heap.size := cell_lt hc0
      have hpl : p < wr.heap.size := cell_lt hp5
      have hz : w2.heap.size ≤ wr.heap.size := hBr.size
      have hCl2 : C < w2.heap.size := cell_lt c0
      have hpl2 : p < w2.heap.size := cell_lt p5
      obtain rfl : k = rec.length := by omega
      rw [List.take_of_length_le (Nat.le_refl _)] at hown hle
      clear hX hRB p1 p3 p5 r5 c0
      go_wp2
      have aC : u7.ownBlock ≠ some C := fun e => by have := (hown.out.lt C e).1; omega
      have ap : u7.ownBlock ≠ some p := fun e => by have := (hown.out.lt p e).1; omega
      have hfA : ∀ o, (wr.alloc o).drew.frozen? ⟨C, 0, none⟩ = false := fun o => Keep.free (D := fun _ => False) ((Keep.alloc o).trans Keep.drew) id hCl hfC
      go_region_law
        ((refine step_append_lies _ (by rfl) _ _ _ (by rfl) w2.heap.size 3 i0 _ 1 8 Tryd.underlying63 hi0 hz0 hz1 hz2' rfl (by omega) u7 (inWin now window rec).length ((inWin now window rec).map (.int .i64)) (by rfl) (by exact Keep.owns (D := fun _ => False) ((Keep.alloc _).trans (Keep.drew)) (fun _ _ => id) hown.out)
            ⟨wr.heap.size, 0, none⟩ 1 1 [.int .i64 now] (by rfl) (by rfl) (by refine news_one ?_; simp) (by simp [Value.oneCell'])
            (by omega) (by unfold maxLen; omega) (by omega) (by simp; omega) (wr.heap.size + 1) (by simp) ?_; intro gg cap w3 hown3 hgrow hat hlt3
          have hC3 := (hgrow.cell_far ⟨C, 0, none⟩ (by simp; omega) (Ne.symm aC)).trans (Keep.cell (D := fun _ => False) ((Keep.alloc _).trans Keep.drew) id hc0)
          have hf3 := (hgrow.frozen_far ⟨C, 0, none⟩ (by simp; omega) (Ne.symm aC)).trans (Keep.free (D := fun _ => False) ((Keep.alloc _).trans Keep.drew) id hCl hfC)
          have hp53 := (hgrow.cell_far ⟨p, 5, none⟩ (by simp; omega) (Ne.symm ap)).trans (Keep.cell (D := fun _ => False) ((Keep.alloc _).trans Keep.drew) id hp5)
          have hp33 := (hgrow.cell_far ⟨p, 3, none⟩ (by simp; omega) (Ne.symm ap)).trans (Keep.cell (D := fun _ => False) ((Keep.alloc _).trans Keep.drew) id hp3)))
      all_goals
        go_wp2
        go_ret
        have hE := pass_end hF.out hB hK2 hR2.out hS2 hfS2 hfC2 hBr hgrow (fun k hk => (hown.out.lt k hk).1) (by omega) (by omega) (by simpa using hown3)
        exact ⟨rfl, hE⟩
end Go.Proofs.YtabinbeohecebaaDoor
