/- The law: the walk. -/
import Derived.Test.YtanhncgbpnkdnaaRPolJ
import Derived.Test.YtanhncgbpnkdnaaRPolP
namespace Go.Proofs.YtanhncgbpnkdnaaR
open Go.RowKit
set_option linter.unusedVariables false
set_option linter.unusedSimpArgs false

theorem owns_form {w : World} {base n : Nat} {e : TypeId} {k : IntKind} {v : Value} {xs : List Int} (h : w.ownsRow base e 1 v n (xs.map (.int k))) :
    ∃ a c g, v = .slice a n c ∧ (0 < n → a = some ⟨g, 0, none⟩ ∧ ∀ j, j < n → w.cell? ⟨g, j, none⟩ = some (.int k (xs.getD j 0))) := by
  rcases h.2 with ⟨rfl, rfl⟩ | ⟨g, cap, cur, rfl, _⟩
  · exact ⟨none, 0, 0, rfl, fun h => absurd h (by omega)⟩
  · exact ⟨_, cap, g, rfl, fun _ => ⟨rfl, owns_ints h⟩⟩

theorem Keep.below_of {w w' : World} (h : Keep (fun _ => False) w w') : Below w.heap.size w w' := ⟨h.os, h.tape, h.output, h.size, fun k hk => h.block k hk id⟩

theorem Full.keep {D : Nat → Prop} {w w' : World} {p R S C M g cr pc xc B : Nat} {pp xa : Option Addr} {pfx : List Int} {rate window now passed : Int} {rec : List Int} (hk : Keep D w w')
    (h : Full w p R S C M g cr pc xc B pp xa pfx rate window now passed rec) (h1 : ¬ D p) (h2 : ¬ D R) (h3 : ¬ D S) (h4 : ¬ D C) (h5 : ¬ D M) (h6 : ∀ a, pp = some a → ¬ D a.block) (h7 : ∀ a, xa = some a → ¬ D a.block) :
    Full w' p R S C M g cr pc xc B pp xa pfx rate window now passed rec := by
  refine ⟨h.rd.keep hk h1 h2 h4 h5 h6 (fun hl => h7 _ (h.rd.rx hl).1), hk.cell h1 h.p4, hk.cell h3 h.s0, hk.free h1 (cell_lt h.rd.p3) h.fP, hk.free h3 (cell_lt h.s0) h.fS, hk.free h4 (cell_lt h.rd.c0) h.fC, ?_, Nat.le_trans h.Bw hk.size, h.pB, h.RB, h.SB, h.CB, h.MB, h.ppB, h.pS, h.pC, h.RS, h.RC, h.Rp, h.SC, h.MS, h.MC, h.Mp, h.pps, h.ps0, h.ps1⟩
  refine hk.owns (fun k hk' => ?_) h.own
  cases xa with
  | none => cases hk'
  | some a => cases hk'; exact h7 a rfl

theorem Full.tick {w : World} {p R S C M g cr pc xc B : Nat} {pp xa : Option Addr} {pfx : List Int} {rate window now passed n : Int} {rec : List Int}
    (h : Full w p R S C M g cr pc xc B pp xa pfx rate window now passed rec) (hn : now ≤ n) (hn2 : n ≤ 2 ^ 61) :
    Full (w.setCell ⟨p, 3, none⟩ (.int .i64 n)) p R S C M g cr pc xc B pp xa pfx rate window n passed rec := by
  have hk : Keep (fun k => k = p) w (w.setCell ⟨p, 3, none⟩ (.int .i64 n)) := Keep.set _ p 3 _ rfl
  have hp : ∀ {i : Nat} {v : Value}, i ≠ 3 → w.cell? ⟨p, i, none⟩ = some v → (w.setCell ⟨p, 3, none⟩ (.int .i64 n)).cell? ⟨p, i, none⟩ = some v := fun hi hv => by
    rw [World.cell?_setCell_other _ _ _ _ (by simp [hi])]; exact hv
  have hxa : ∀ a, xa = some a → ¬ a.block = p := fun a ha => by
    have := (h.own.lt a.block (by rw [ha]; rfl)).1; have := h.pB; omega
  have qR := h.Rp
  obtain ⟨p0, p1, p3, p5, p6, r0, r1, r2, r3, r4, r5, hpfx, c0, m0, rl, rx, n0, n1, rb⟩ := h.rd
  have hpp := fun a ha => (h.pps a ha).2.2
  refine ⟨⟨hp (by omega) p0, hp (by omega) p1, World.cell?_setCell_same _ _ _ p3, hp (by omega) p5, hp (by omega) p6, hk.cell qR r0, hk.cell qR r1, hk.cell qR r2, hk.cell qR r3, hk.cell qR r4, hk.cell qR r5, hk.bytes hpp hpfx, hk.cell (fun e => h.pC e.symm) c0, hk.heap h.Mp m0, rl,
      fun hl => ⟨(rx hl).1, fun j hj => hk.cell (a := ⟨g, j, none⟩) (hxa ⟨g, 0, none⟩ (rx hl).1) ((rx hl).2 j hj)⟩, by omega, hn2, fun j hj => ⟨(rb j hj).1, Int.le_trans (rb j hj).2 hn⟩⟩,
    hp (by omega) h.p4, hk.cell (fun e => h.pS e.symm) h.s0, (World.frozen?_setCell _ _ _ _).trans h.fP, (World.frozen?_setCell _ _ _ _).trans h.fS, (World.frozen?_setCell _ _ _ _).trans h.fC, ?_, Nat.le_trans h.Bw hk.size, h.pB, h.RB, h.SB, h.CB, h.MB, h.ppB, h.pS, h.pC, h.RS, h.RC, h.Rp, h.SC, h.MS, h.MC, h.Mp, h.pps, h.ps0, h.ps1⟩
  refine hk.owns (fun k hk' => ?_) h.own
  cases xa with
  | none => cases hk'
  | some a => cases hk'; exact hxa a rfl

set_option maxRecDepth 100000 in
set_option maxHeartbeats 8000000 in
theorem law_walk (rate window : Int) (wr : (Lit.int .i64 rate).wf = true) (ww : (Lit.int .i64 window).wf = true) (a : Option Addr) (len cap b off : Nat) (zs : List Int) (w : World) (hlen : len * 8 ≤ 140737488351232)
    (hx : 0 < len → a = some ⟨b, off, none⟩ ∧ ∀ j, j < len → w.cell? ⟨b, off + j, none⟩ = some (.int .i64 (zs.getD j 0))) :
    Calls Try.prog 3 #[.int .i64 rate, .int .i64 window, .slice a len cap] w fun e w' => e = .returned (.bool true) ∧ Below w.heap.size w w' := by
  have hX := Lib.hid hx
  clear hx
  have hr := mod_bd rate 5 (by omega)
  have hw := mod_bd window 20 (by omega)
  have b1 : -5 < rate.tmod 5 ∧ rate.tmod 5 < 5 := ⟨by have := Int.lt_tmod_of_pos rate (b := 5) (by omega); omega, Int.tmod_lt_of_pos rate (by omega)⟩
  have b2 : -20 < window.tmod 20 ∧ window.tmod 20 < 20 := ⟨by have := Int.lt_tmod_of_pos window (b := 20) (by omega); omega, Int.tmod_lt_of_pos window (by omega)⟩
  have kc := fun (w : World) (C : Array Value) (n c : Nat) => Lib.run_convert_bytes_const (P := Try.prog) w 28 5 C n c Try.underlying28 Try.underlying5
  go_enter Try.func3, Try.ntmps3
  go_wp2_with (go_at_call 4; refine (works_any _).mono ?_; rintro e w' ⟨rfl, hB0⟩)
  have hr' : 1 ≤ 1 + rate.tmod 5 % 5 ∧ 1 + rate.tmod 5 % 5 ≤ 5 := by omega
  have hw' : 1 ≤ 1 + window.tmod 20 % 20 ∧ 1 + window.tmod 20 % 20 ≤ 20 := by omega
  clear hr hw
  generalize 1 + rate.tmod 5 % 5 = rt at hr' ⊢
  generalize 1 + window.tmod 20 % 20 = wi at hw' ⊢
  refine (new_none w'.heap.size 1 rt wi _ hr'.1 (by omega) hw'.1 (by omega) (by simp) (by simp) (by simp) (by simp) (by simp) (by simp)).mono ?_
  rintro e w1 ⟨p, R, S, C, M, cr, pc, B, pp, rfl, hF, bp, bS, bC, hB1⟩
  have hF := Lib.hid hF
  have hB : Below w.heap.size w w1 := later hB0 (later ((Below.refl _ _).alloc (Nat.le_refl _) _) hB1)
  simp at bp bS bC
  have hz0 := hB0.size
  go_wp2
  obtain ⟨i0, hi0, hz0', hz1, hz2⟩ := info_parts info3
  have pS := (hF.out 0).pS
  have pC := (hF.out 0).pC
  have SC := (hF.out 0).SC
  go_loopw [9, 10, 11] (fun sn sg si wr => ∃ (k : Nat) (now : Int) (gone rec : List Int) (gr xc : Nat) (xa : Option Addr), k ≤ len ∧ si = .int .i64 k ∧ sn = .int .i64 now ∧ 0 ≤ now ∧ now ≤ 3 * k ∧ gone.length ≤ k ∧ rec.length ≤ 5 ∧
      wr.ownsRow w1.heap.size 3 1 sg gone.length (gone.map (.int .i64)) ∧ Full wr p R S C M gr cr pc xc B pp xa [] rt wi now gone.length rec ∧ Inv rt wi now gone rec ∧ Below w.heap.size w wr ∧ (∀ x, xa = some x → sg.ownBlock ≠ some x.block) ∧ w1.heap.size ≤ wr.heap.size)
    (fun _ _ si _ => len - (intOf si).toNat)
  case atStart => exact ⟨0, 0, [], [], 0, 0, none, Nat.zero_le _, rfl, rfl, by omega, by omega, by simp, by simp, World.ownsRow_nil _ _ _ _, hF.out 0, inv_nil _ _, ⟨hB, ⟨fun _ h => (by cases h), Nat.le_refl _⟩⟩⟩
  case round =>
    obtain ⟨k, now, gone, rec, gr, xc, xa, hk, rfl, rfl, n0, n1, hgl, hrl, hown, hFr, hI, hBr, hxa, hsz⟩ := hrel
    have hown := Lib.hid hown
    have hFr := Lib.hid hFr
    have hI := Lib.hid hI
    by_cases hlt : k < len
    · obtain ⟨rfl, hcell⟩ := hX.out (by omega)
      have hck := cell_on hBr (hcell k hlt)
      clear hcell
      generalize zs.getD k 0 = x at hck
      have hs4 : 0 ≤ x.tmod 4 % 4 ∧ x.tmod 4 % 4 ≤ 3 := by omega
      have hx4 : -4 < x.tmod 4 ∧ x.tmod 4 < 4 := ⟨by have := Int.lt_tmod_of_pos x (b := 4) (by omega); omega, Int.tmod_lt_of_pos x (by omega)⟩
      go_wp2_with fail
      obtain ⟨nn, hnn⟩ : ∃ nn, now + x.tmod 4 % 4 = nn := ⟨_, rfl⟩
      have hn1 : now ≤ nn := by omega
      have hn2 : nn ≤ now + 3 := by omega
      rw [hnn]
      clear hnn
      refine (tick_ok wr p now nn hFr.out.rd.p0 hFr.out.rd.p3 hFr.out.fP hn1).mono ?_
      rintro e w2 ⟨rfl, hw2⟩
      have hK2 : Keep (fun k => k = p) wr w2 := by rw [← hw2]; exact Keep.set _ p 3 _ rfl
      have hF2 := Lib.hid (hFr.out.tick hn1 (by omega))
      rw [hw2] at hF2
      clear hw2
      have hown2 := Lib.hid (hK2.owns (fun q hq => by have := (hown.out.lt q hq).1; have := cell_lt (hF.out 0).rd.p0; simp at this; show ¬ q = p; omega) hown.out)
      obtain ⟨ga, gc, gb, rfl, hgx⟩ := owns_form hown2.out
      have hGX := Lib.hid hgx
      clear hgx
      have hmle : (inWin nn wi gone).length ≤ gone.length := inWin_le _ _ _
      have hgb : gone.length * 8 ≤ 140737488351232 := by omega
      go_wp2
      go_loop [12, 13] (fun sm sk => ∃ j : Nat, j ≤ gone.length ∧ sk = .int .i64 j ∧ sm = .int .i64 (inWin nn wi (gone.take j)).length) (fun _ sk => gone.length - (intOf sk).toNat)
      case atStart => exact ⟨0, Nat.zero_le _, rfl, rfl⟩
      case round =>
        obtain ⟨j, hj, rfl, rfl⟩ := hrel
        have hle : (inWin nn wi (gone.take j)).length ≤ j := Nat.le_trans (inWin_le _ _ _) (List.length_take_le _ _)
        by_cases hjl : j < gone.length
        · obtain ⟨rfl, hcell⟩ := hGX.out (by omega)
          have hcj := hcell j hjl
          have hbj := hI.out.b j hjl
          have hs := Lib.hid (inWin_snoc nn wi gone j hjl)
          clear hcell
          obtain ⟨t, ht⟩ : ∃ t, gone.getD j 0 = t := ⟨_, rfl⟩
          rw [ht] at hcj hbj hs
          clear ht
          by_cases h : nn - t < wi
          all_goals
            go_wp2
            go_round
            case rel => exact ⟨j + 1, by omega, by go_num, by rw [hs.out]; first | (rw [if_pos (by omega)]; simp) | (rw [if_neg (by omega)]; simp)⟩
            case measure => simp [intOf]; omega
        · obtain rfl : j = gone.length := by omega
          rw [List.take_of_length_le (Nat.le_refl _)] at hle ⊢
          have hsame := Lib.hid (hI.out.same nn hn1)
          have hF3 := Lib.hid (hF2.out.on (Keep.below_of ((Keep.alloc (D := fun _ => False) (w := w2) (.cells #[.int .u8 120] 5 (1, 2))))))
          have hTx := Lib.hid (bytesIn_new w2 [120] 5 (1, 2))
          go_wp2_with fail
          by_cases hm : ((inWin nn wi gone).length : Int) < rt
          · have hsay : says [] [120] rt wi nn rec = 0 := by
              unfold says
              rw [if_pos (by decide), hsame.out, if_pos hm]
            refine (pass_yes _ p R S C M gr cr pc xc B pp xa (some ⟨w2.heap.size, 0, none⟩) [] [120] rt wi nn gone.length rec 1 hF3.out hTx.out (by decide) (by decide) (by omega) hsay (by rw [hsame.out]; omega) (by omega)).mono ?_
            rintro e w4 ⟨rfl, hK4, g4, xc4, hg4, hF4⟩
            have hF4 := Lib.hid hF4
            have hg4' : w2.heap.size + 1 ≤ g4 := by simpa using hg4
            clear hsay
            have hown4 : w4.ownsRow w1.heap.size 3 1 (.slice ga gone.length gc) gone.length (gone.map (.int .i64)) :=
              Keep.owns (D := fun q => q = S ∨ q = C) ((Keep.alloc _).trans hK4) (fun q hq => by
                have h1 := (hown.out.lt q hq).1
                have h2 := cell_lt (hF.out 0).s0
                have h3 := cell_lt (hF.out 0).rd.c0
                simp at h2 h3
                show ¬ (q = S ∨ q = C)
                omega) hown2.out
            have hown4 := Lib.hid hown4
            go_wp2_with (at_builtin; go_must (refine wpList_append_lies _ rfl _ _ 22 rfl w1.heap.size 3 i0 (.int .i64 0) 1 8 Try.underlying22 hi0 hz0' hz1 hz2 rfl (by decide) (.slice ga gone.length gc) gone.length (gone.map (.int .i64)) rfl (by exact Keep.owns (D := fun _ => False) (Keep.alloc _) (fun _ _ => id) hown4.out) ⟨w4.heap.size, 0, none⟩ 1 1 [.int .i64 nn] rfl rfl ?a1 ?a2 ?a3 ?a4 ?a5 ?a6 _ rfl ?_))
            case a1 => exact news_one (cell_of (heap_alloc_new w4 _) rfl)
            case a2 => simp [Value.oneCell']
            case a3 => omega
            case a4 => unfold maxLen; omega
            case a5 => omega
            case a6 =>
              have h1 := hK2.size
              have h2 : w2.heap.size + 1 ≤ w4.heap.size := by simpa using hK4.size
              simp; omega
            intro g5 cap5 w5 hown5 hgrow5 hat5 hlt5
            have H5 := Lib.hid hown5
            have hG5 := Lib.hid hgrow5
            have hA5 := Lib.hid hat5
            clear hown5 hgrow5 hat5
            go_wp2
            go_roundw
            case rel =>
              have b0 := hF.out 0
              have hlow : ∀ q, (Value.slice ga gone.length gc).ownBlock = some q → w1.heap.size ≤ q ∧ q < w2.heap.size := fun q hq => hown2.out.lt q hq
              have c1 := b0.pB; have c2 := b0.RB; have c3 := b0.SB; have c4 := b0.CB; have c5 := b0.MB; have c6 := b0.Bw
              have hnD : ∀ q, q < w1.heap.size → ¬ (Value.slice ga gone.length gc).ownBlock = some q := fun q hq h => by have := (hlow q h).1; omega
              have hF5 : Full w5 p R S C M g4 cr pc xc4 B pp (some ⟨g4, 0, none⟩) [] rt wi nn (gone.length + 1) (inWin nn wi rec ++ [nn]) :=
                (hF4.out.keep (D := fun q => (Value.slice ga gone.length gc).ownBlock = some q) (Keep.trans (Keep.alloc _) (Keep.grown hG5.out (fun q hq => hq)))
                  (hnD _ (by omega)) (hnD _ (by omega)) (hnD _ (by omega)) (hnD _ (by omega)) (hnD _ (by omega)) (fun a ha => hnD _ (by have := b0.ppB a ha; omega)) (fun a ha => by
                    cases ha; intro h; have := (hlow g4 h).2; omega))
              have hk4 : Keep (fun q => w.heap.size ≤ q) w w5 := by
                have z0 := hB.size
                refine ((((Keep.of_below hBr).trans (hK2.mono fun q _ h => by show w.heap.size ≤ q; rw [h]; omega)).trans (Keep.alloc _)).trans (hK4.mono fun q _ h => by rcases h with h | h <;> (show w.heap.size ≤ q; omega))).trans ((Keep.alloc _).trans (Keep.grown hG5.out (fun q hq => by have := (hlow q hq).1; show w.heap.size ≤ q; omega)))
              refine ⟨k + 1, nn, gone ++ [nn], inWin nn wi rec ++ [nn], g4, xc4, some ⟨g4, 0, none⟩, by omega, by go_num, rfl, by omega, by omega, by simp; omega, by rw [hsame.out]; simp; omega, by simpa using H5.out, ?_, ?_, hk4.below (Nat.le_refl _), ?_, ?_⟩
              · have e : (((gone ++ [nn]).length : Nat) : Int) = gone.length + 1 := by simp
                rw [e]; exact hF5
              · exact inv_pass (inv_tick hI.out hn1) (by omega) (by omega) hm
              · intro x hx h
                cases hx
                have h4 := (hF4.out.own.lt g4 rfl).2
                simp only [Value.ownBlock, Option.some.injEq] at h
                rcases hA5.out with h5 | h5
                · have := (hlow _ h5).2; omega
                · have h5' : g5 = w4.heap.size + 1 := by simpa using h5
                  omega
              · have h1 := hK2.size; have h2 : w2.heap.size + 1 ≤ w4.heap.size := by simpa using hK4.size
                have h3 : w4.heap.size + 1 ≤ w5.heap.size := by simpa using hG5.out.size
                omega
            case measure => simp [intOf]; omega
          · have hsay : says [] [120] rt wi nn rec = 244 := by
              unfold says
              rw [if_pos (by decide), hsame.out, if_neg hm]
            refine (pass_no _ p R C M gr cr pc xc pp xa (some ⟨w2.heap.size, 0, none⟩) [] [120] rt wi nn rec 1 hF3.out.rd hTx.out (by decide) (by decide) (by omega) (by rw [hsay]; decide)).mono ?_
            rw [hsay]
            clear hsay
            rintro e w4 ⟨rfl, hB4⟩
            go_wp2
            go_roundw
            case rel =>
              have b0 := hF.out 0
              have c1 := b0.pB; have c6 := b0.Bw
              have hk4 : Keep (fun q => w.heap.size ≤ q) w w4 := by
                have z0 := hB.size
                exact (((Keep.of_below hBr).trans (hK2.mono fun q _ h => by show w.heap.size ≤ q; rw [h]; omega)).trans (Keep.alloc _)).trans (Keep.of_below hB4)
              refine ⟨k + 1, nn, gone, rec, gr, xc, xa, by omega, by go_num, rfl, by omega, by omega, by omega, hrl, Keep.owns (D := fun _ => False) ((Keep.alloc _).trans (Keep.of_below hB4)) (fun _ _ => id) hown2.out, hF3.out.on hB4, inv_tick hI.out hn1, hk4.below (Nat.le_refl _), hxa, ?_⟩
              have h1 := hK2.size
              have h2 : w2.heap.size + 1 ≤ w4.heap.size := by simpa using hB4.size
              omega
            case measure => simp [intOf]; omega
    · have hkl : k = len := by omega
      subst hkl
      obtain ⟨ga, gc, gb, rfl, hgx⟩ := owns_form hown.out
      have hGX := Lib.hid hgx
      clear hgx
      obtain ⟨r, rfl⟩ := Int.eq_ofNat_of_zero_le (show 0 ≤ rt by omega)
      have hgb : gone.length * 8 ≤ 140737488351232 := by omega
      go_wp2
      go_loopw [15] (fun si wx => ∃ (j m : Nat), r ≤ j ∧ (j ≤ r ∨ j ≤ gone.length) ∧ si = .int .i64 j ∧ wx = wr.drewN m) (fun si _ => gone.length - (intOf si).toNat)
      case atStart => exact ⟨r, 0, Nat.le_refl _, .inl (Nat.le_refl _), rfl, rfl⟩
      case round =>
        obtain ⟨j, m, hrj, hjr, rfl, rfl⟩ := hrel
        by_cases hjl : j < gone.length
        · obtain ⟨rfl, hcell⟩ := hGX.out (by omega)
          have h1 := hcell j hjl
          have h2 := hcell (j - r) (by omega)
          have hsep := hI.out.sep j (by simpa using hrj) hjl
          have hb1 := hI.out.b j hjl
          have hb2 := hI.out.b (j - r) (by omega)
          rw [Int.toNat_natCast] at hsep
          clear hcell
          generalize gone.getD j 0 = t1 at h1 hsep hb1
          generalize gone.getD (j - r) 0 = t2 at h2 hsep hb2
          have e1 : wrap64 ((j : Int) - (r : Int)) = ((j - r : Nat) : Int) := by rw [IntWalk.wrap64_in _ ⟨by omega, by omega⟩]; omega
          have e2 : wrap64 (t1 - t2) = t1 - t2 := IntWalk.wrap64_in _ ⟨by omega, by omega⟩
          have e3 : ((j - r : Nat) : Int) < (gone.length : Int) := by omega
          go_wp2
          go_quiet (fail)
          clear e1 e2
          go_wp2
          go_roundw
          case rel => exact ⟨j + 1, _, by omega, .inr (by omega), by go_num, rfl⟩
          case measure => simp [intOf]; omega
        · have hFm := Lib.hid (hFr.out.on (below_drewN (Below.refl _ _) m))
          go_wp2_with fail
          refine (look_any _ p R S C M gr cr pc xc B pp xa [] r wi now gone.length rec hFm.out).mono ?_
          rintro e w6 ⟨n1', n2', g6, c6, g7, c7, rfl, hg6, hB6⟩
          have lg6 : g6 < w6.heap.size := cell_lt hg6
          go_wp2
          go_ret
          exact ⟨rfl, later (later hBr (later (below_drewN (Below.refl _ _) m) hB6)) ((Below.refl _ _).alloc (Nat.le_refl _) _)⟩
end Go.Proofs.YtanhncgbpnkdnaaR
