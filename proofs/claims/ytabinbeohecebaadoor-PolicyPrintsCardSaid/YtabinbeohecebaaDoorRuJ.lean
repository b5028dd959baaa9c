/- CopyBytes, twin. -/
import Derived.Test.YtabinbeohecebaaDoorRuI
import Derived.Deep.AppendLies
namespace Go.Proofs.YtabinbeohecebaaDoor
open Go.RowKit
set_option linter.unusedVariables false
set_option linter.unusedSimpArgs false

theorem inf5 : (Tryd.prog.info? 5).map (fun i => (i.zero, i.size, i.bytes)) = some (some (.int .u8 0), 1, 1) := by kernel_rfl
theorem infRule : (Tryd.prog.info? 35).map (fun i => (i.zero, i.size, i.bytes)) = some (some (.agg #[.bool false, .slice none 0 0, .int .i64 0, .int .i64 0, .int .i64 0, .int .i64 0]), 6, 64) := by kernel_rfl

/-- A row of bytes that is owned. -/
theorem owns_bs {W : World} {base g cap : Nat} {e : TypeId} {l : List UInt8} (h : W.ownsRow base e 1 (.slice (some ⟨g, 0, none⟩) l.length cap) l.length (l.map B8)) : Bs W (some ⟨g, 0, none⟩) l := fun _ => by
  refine ⟨g, 0, rfl, fun i hi => ?_⟩
  have := h.cells (g := g) rfl i (B8 (l.getD i 0)) (by rw [List.getElem?_map, List.getD_eq_getElem?_getD, List.getElem?_eq_getElem hi]; rfl)
  rw [Go.WideShapes.add_plain] at this
  exact this
theorem one_bytes {l : List UInt8} : ∀ u ∈ l.map B8, u.oneCell' = true := fun u hu => by
  obtain ⟨x, _, rfl⟩ := List.mem_map.1 hu; rfl
theorem news_bs {W : World} {b o : Nat} {l : List UInt8} (h : ∀ i, i < l.length → W.cell? ⟨b, o + i, none⟩ = some (B8 (l.getD i 0))) : ∀ j u, (l.map B8)[j]? = some u → W.cell? ((⟨b, o, none⟩ : Addr).add j) = some u := fun j u hu => by
  have hj : j < l.length := by
    rcases Nat.lt_or_ge j l.length with h' | h'
    · exact h'
    · rw [List.getElem?_eq_none (by simpa using h')] at hu; cases hu
  rw [Go.WideShapes.add_plain, h j hj]
  rw [List.getElem?_map, List.getElem?_eq_getElem hj] at hu
  simp only [Option.map_some, Option.some.injEq] at hu
  rw [← hu, List.getD_eq_getElem?_getD, List.getElem?_eq_getElem hj]; rfl

/-- What a copy is: nil of nothing; else a new row. -/
def Copied (w : World) (l : List UInt8) (v : Value) (w' : World) : Prop := ∃ A c, v = .slice A l.length c ∧ l.length ≤ c ∧ Bs w' A l ∧ (∀ a, A = some a → w.heap.size ≤ a.block ∧ a.block < w'.heap.size) ∧ Below w.heap.size w w'

set_option maxHeartbeats 4000000 in
theorem copyBytes_any (A : Option Addr) (c : Nat) (l : List UInt8) (w : World) (hb : Bs w A l) (hl : l.length ≤ 140737488351232) :
    Calls Tryd.prog 10 #[.slice A l.length c] w fun e w' => ∃ v, e = .returned v ∧ Copied w l v w' := by
  rcases Nat.eq_zero_or_pos l.length with h0 | h0
  · obtain rfl : l = [] := List.eq_nil_of_length_eq_zero h0
    cases A
    all_goals
      go_enter Tryd.func10, Tryd.ntmps10
      go_wp2
      go_ret
      exact ⟨_, rfl, none, 0, rfl, by simp, Bs.nil _ _, (fun a ha => by cases ha), Below.refl _ _⟩
  · obtain ⟨b, o, rfl, H⟩ := hb h0
    have H := Lib.hid H
    clear hb
    obtain ⟨i0, hi0, hz0, hz1, hz2⟩ := info_parts inf5
    go_enter Tryd.func10, Tryd.ntmps10
    go_wp2_with (at_builtin; go_must (refine wpList_append_lies _ rfl _ _ 33 rfl w.heap.size 5 i0 (.int .u8 0) 1 1 Tryd.underlying33 hi0 hz0 hz1 hz2 rfl (by decide) (.slice none 0 0) 0 [] rfl (World.ownsRow_nil _ _ _ _) ⟨b, o, none⟩ l.length c (l.map B8) rfl ?a1 ?a2 one_bytes ?a3 ?a4 ?a5 ?a6 _ rfl ?_))
    case a1 => simp
    case a2 => exact news_bs H.out
    case a3 => omega
    case a4 => unfold maxLen; omega
    case a5 => omega
    case a6 => omega
    intro g cap w3 hown hgrow hat hlt
    have hown : w3.ownsRow w.heap.size 5 1 (.slice (some ⟨g, 0, none⟩) l.length cap) l.length (l.map B8) := by simpa using hown
    have hg := hown.lt g rfl
    have hB := (Below.refl w.heap.size w).grown hgrow (by omega) (fun j hj => by simp [Value.ownBlock] at hj)
    have hbs := owns_bs hown
    have hcap : l.length ≤ cap := by
      rcases hown.2 with ⟨h, _⟩ | ⟨g2, cap2, cur, h, -, -, h2, -⟩
      · cases h
      · cases h; exact h2
    have hK := Lib.hid hbs
    clear hown hgrow hat hlt hbs
    go_wp2
    go_ret
    exact ⟨_, rfl, some ⟨g, 0, none⟩, cap, by simp, hcap, hK.out, (fun a ha => by cases ha; exact hg), hB⟩

/-- A rule's cells with a prefix that lies there. -/
def cellsR (r : RD) (p : Option Addr × Nat) : List Value := [.bool r.al, .slice p.1 r.pf.length p.2, .int .i64 r.mo, .int .i64 r.ap, .int .i64 r.ra, .int .i64 r.wi]
def rowR (rs : List RD) (f : Nat → Option Addr × Nat) (k : Nat) : List Value := (List.range k).flatMap fun j => cellsR (rs.getD j RD.zero) (f j)
theorem rowR_succ (rs : List RD) (f : Nat → Option Addr × Nat) (k : Nat) : rowR rs f (k + 1) = rowR rs f k ++ cellsR (rs.getD k RD.zero) (f k) := by
  simp [rowR, List.range_succ]
theorem rowR_length (rs : List RD) (f : Nat → Option Addr × Nat) (k : Nat) : (rowR rs f k).length = k * 6 := by
  induction k with
  | zero => rfl
  | succ k ih => rw [rowR_succ, List.length_append, ih]; simp [cellsR]; omega
theorem rowR_congr {rs : List RD} {f g : Nat → Option Addr × Nat} {k : Nat} (h : ∀ j, j < k → f j = g j) : rowR rs f k = rowR rs g k := by
  induction k with
  | zero => rfl
  | succ k ih => rw [rowR_succ, rowR_succ, ih fun j hj => h j (by omega), h k (by omega)]
theorem rowR_at (rs : List RD) (f : Nat → Option Addr × Nat) (k j i : Nat) (hj : j < k) (hi : i < 6) : (rowR rs f k)[j * 6 + i]? = (cellsR (rs.getD j RD.zero) (f j))[i]? := by
  induction k with
  | zero => omega
  | succ k ih =>
    rw [rowR_succ]
    by_cases h : j < k
    · rw [List.getElem?_append_left (by rw [rowR_length]; omega)]
      exact ih h
    · obtain rfl : j = k := by omega
      rw [List.getElem?_append_right (by rw [rowR_length]; omega), rowR_length]
      congr 1
      omega

/-- What twin has made of the first k rules. -/
structure Twin (rs : List RD) (B : Nat) (v : Value) (f : Nat → Option Addr × Nat) (k : Nat) (w : World) : Prop where
  own : w.ownsRow B 35 6 v k (rowR rs f k)
  bs : ∀ j, j < k → Bs w (f j).1 (rs.getD j RD.zero).pf ∧ (rs.getD j RD.zero).pf.length ≤ (f j).2
  far : ∀ j, j < k → ∀ a, (f j).1 = some a → v.ownBlock ≠ some a.block ∧ a.block < w.heap.size

theorem Twin.on {rs : List RD} {B : Nat} {v : Value} {f : Nat → Option Addr × Nat} {k : Nat} {w w' : World} (hb : Below w.heap.size w w') (h : Twin rs B v f k w) : Twin rs B v f k w' :=
  ⟨(Keep.of_below (D := fun _ => False) hb).owns (fun _ _ => id) h.own, fun j hj => ⟨(h.bs j hj).1.on hb, (h.bs j hj).2⟩, fun j hj a ha => ⟨(h.far j hj a ha).1, Nat.lt_of_lt_of_le (h.far j hj a ha).2 hb.size⟩⟩

theorem Twin.rules {rs : List RD} {B : Nat} {v : Value} {f : Nat → Option Addr × Nat} {w : World} (h : Twin rs B v f rs.length w) : ∃ A c, v = .slice A rs.length c ∧ rs.length ≤ c ∧ RulesIn w A rs := by
  rcases h.own.2 with ⟨hv, h0⟩ | ⟨g, cap, cur, hv, -, -, hc, -⟩
  · exact ⟨none, 0, by rw [hv, h0], by omega, fun hp => absurd hp (by omega)⟩
  · refine ⟨_, _, hv, hc, fun _ => ⟨g, 0, rfl, fun i hi => ?_⟩⟩
    have hown := h.own
    rw [hv] at hown
    have at_ : ∀ j u, j < 6 → (cellsR (rs.getD i RD.zero) (f i))[j]? = some u → w.cell? ⟨g, 0 + i * 6 + j, none⟩ = some u := fun j u hj hu => by
      have := hown.cells (g := g) rfl (i * 6 + j) u (by rw [rowR_at _ _ _ _ _ hi hj]; exact hu)
      rw [Go.WideShapes.add_plain] at this
      rw [Nat.add_assoc]
      exact this
    exact ⟨at_ 0 _ (by omega) rfl, ⟨_, _, at_ 1 _ (by omega) rfl, (h.bs i hi).2, (h.bs i hi).1⟩, at_ 2 _ (by omega) rfl, at_ 3 _ (by omega) rfl, at_ 4 _ (by omega) rfl, at_ 5 _ (by omega) rfl⟩

theorem Twin.next {rs : List RD} {B : Nat} {v : Value} {f : Nat → Option Addr × Nat} {k : Nat} {wr w1 w3 : World} {g cap X : Nat} {o ob : Obj} {u : Value} {A : Option Addr} {c : Nat}
    (h : Twin rs B v f k wr) (hX : X = wr.heap.size) (hc : Copied (wr.alloc ob) (rs.getD k RD.zero).pf (.slice A (rs.getD k RD.zero).pf.length c) w1)
    (hown : w3.ownsRow B 35 6 (.slice (some ⟨g, 0, none⟩) (k + 1) cap) (k + 1) (rowR rs f k ++ cellsR (rs.getD k RD.zero) (A, c)))
    (hgrow : ((w1.setCell ⟨X, 1, none⟩ u).alloc o).grownBy w3 v.ownBlock) (hat : v.ownBlock = some g ∨ g = ((w1.setCell ⟨X, 1, none⟩ u).alloc o).heap.size) :
    Twin rs B (.slice (some ⟨g, 0, none⟩) (k + 1) cap) (fun j => if j = k then (A, c) else f j) (k + 1) w3 ∧ Keep (fun n => n = X ∨ v.ownBlock = some n) wr w3 := by
  obtain ⟨A', c', e1, hlc, hbs, hfar, hB⟩ := hc
  cases e1
  have hs1 := hB.size
  have hvl : ∀ n, v.ownBlock = some n → n < wr.heap.size := fun n hn => (h.own.lt n hn).2
  have hs2 : ((w1.setCell ⟨X, 1, none⟩ u).alloc o).heap.size = w1.heap.size + 1 := by simp
  simp at hs1
  have k1 : Keep (fun n => n = X ∨ v.ownBlock = some n) wr w1 := (Keep.alloc ob).trans (Keep.of_below hB)
  have k2 : Keep (fun n => n = X ∨ v.ownBlock = some n) w1 w3 := ((Keep.set _ _ _ _ (.inl rfl)).trans (Keep.alloc o)).trans (Keep.grown hgrow fun n hn => .inr hn)
  have hs3 := k2.size
  refine ⟨⟨?_, ?_, ?_⟩, k1.trans k2⟩
  · rw [rowR_succ, rowR_congr (g := f) (fun j hj => by simp [show ¬ j = k from by omega])]
    simpa using hown
  · intro j hj
    by_cases hjk : j = k
    · subst hjk
      simp only [if_true]
      refine ⟨hbs.keep k2 fun a ha hD => ?_, hlc⟩
      have := hfar a ha
      simp at this
      rcases hD with hD | hD
      · omega
      · have := hvl _ hD; omega
    · simp only [if_neg hjk]
      have hj' : j < k := by omega
      exact ⟨(h.bs j hj').1.keep (k1.trans k2) fun a ha hD => (by
        have := h.far j hj' a ha
        rcases hD with hD | hD
        · omega
        · exact this.1 hD), (h.bs j hj').2⟩
  · intro j hj a ha
    by_cases hjk : j = k
    · subst hjk
      simp only [if_true] at ha
      have := hfar a ha
      simp at this
      refine ⟨fun hD => ?_, by omega⟩
      simp only [Value.ownBlock, Option.some.injEq] at hD
      rcases hat with h' | h'
      · have := hvl _ h'; omega
      · omega
    · simp only [if_neg hjk] at ha
      have := h.far j (by omega) a ha
      refine ⟨fun hD => ?_, by omega⟩
      simp only [Value.ownBlock, Option.some.injEq] at hD
      rcases hat with h' | h'
      · exact this.1 (by rw [h', hD])
      · omega

set_option maxRecDepth 100000 in
set_option maxHeartbeats 4000000 in
theorem twin_any (A : Option Addr) (c : Nat) (rs : List RD) (w : World) (hr : RulesIn w A rs) (hl : rs.length * 64 ≤ 140737488355328) (hp : ∀ i, (rs.getD i RD.zero).pf.length ≤ 140737488351232) :
    Calls Tryd.prog 4 #[.slice A rs.length c] w fun e w' => ∃ A' c', e = .returned (.slice A' rs.length c') ∧ rs.length ≤ c' ∧ RulesIn w' A' rs ∧ Below w.heap.size w w' := by
  have HR := Lib.hid hr
  have HP := Lib.hid hp
  clear hr hp
  obtain ⟨i0, hi0, hz0, hz1, hz2⟩ := info_parts infRule
  go_enter Tryd.func4, Tryd.ntmps4
  go_wp2
  go_loopw [3, 4, 5] (fun s i _ wr => ∃ (k : Nat) (f : Nat → Option Addr × Nat), k ≤ rs.length ∧ i = .int .i64 k ∧ Twin rs w.heap.size s f k wr ∧ Below w.heap.size w wr) (fun _ i _ _ => rs.length - (intOf i).toNat)
  case atStart => exact ⟨0, fun _ => (none, 0), Nat.zero_le _, rfl, ⟨World.ownsRow_nil _ _ _ _, fun j hj => absurd hj (by omega), fun j hj => absurd hj (by omega)⟩, Below.refl _ _⟩
  case round =>
    obtain ⟨k, f, hk, rfl, hT, hB⟩ := hrel

    by_cases hlt : k < rs.length
    · obtain ⟨b, o, rfl, H⟩ := HR.out (by omega)
      have hR := (H k hlt).on hB
      have hpl := HP.out k
      have hsz := hB.size
      have hB := Lib.hid hB
      have hT := Lib.hid hT
      clear H
      generalize hrk : rs.getD k RD.zero = r at hR hpl
      have hrk := Lib.hid hrk
      obtain ⟨A1, c1, x1, -, hbs⟩ := hR.c1
      have hbs := Lib.hid hbs
      have x0 := hR.c0
      have x2 := hR.c2
      have x3 := hR.c3
      have x4 := hR.c4
      have x5 := hR.c5
      clear hR
      have k0 : (0 : Int) ≤ (k : Int) := by omega
      have k1 : (k : Int) < (rs.length : Int) := by omega
      have hbx := Lib.hid (Box.mk0 wr r.al A1 r.pf.length c1 r.mo r.ap r.ra r.wi 35)
      have hX : (wr.alloc (.cells #[.bool r.al, .slice A1 r.pf.length c1, .int .i64 r.mo, .int .i64 r.ap, .int .i64 r.ra, .int .i64 r.wi] 35)).frozen? ⟨wr.heap.size, 1, none⟩ = false := free_of (heap_alloc_new wr _)
      have hX := Lib.hid hX
      go_wp2_with fail
      refine (copyBytes_any A1 c1 r.pf _ (hbs.out.on (boxed _ _)) hpl).mono ?_
      rintro e w1 ⟨v1, rfl, hC⟩
      have hC := Lib.hid hC
      obtain ⟨A2, c2, rfl, -, -, -, b1⟩ := hC.out
      have hbx1 := hbx.out.on b1
      have y0 := hbx1.c0
      have y1 := hbx1.c1
      have y2 := hbx1.c2
      have y3 := hbx1.c3
      have y4 := hbx1.c4
      have y5 := hbx1.c5
      have fz : w1.frozen? ⟨wr.heap.size, 1, none⟩ = false := free_on b1 (by simp) hX.out
      have hs1 := b1.size
      simp at hs1
      clear hbx1 b1 hbx hX x0 x1 x2 x3 x4 x5
      have hs1 := Lib.hid hs1
      have hXo : ¬ (u3.ownBlock = some wr.heap.size) := fun hh => by have := (hT.out.own.lt _ hh).2; omega
      have howp : (w1.setCell ⟨wr.heap.size, 1, none⟩ (.slice A2 r.pf.length c2)).ownsRow w.heap.size 35 6 u3 k (rowR rs f k) := by
        have hk1 : Keep (fun n => n = wr.heap.size) wr (w1.setCell ⟨wr.heap.size, 1, none⟩ (.slice A2 r.pf.length c2)) := by
          obtain ⟨_, _, _, _, _, _, hb1⟩ := hC.out
          exact ((Keep.alloc _).trans (Keep.of_below hb1)).trans (Keep.set _ _ _ _ rfl)
        exact hk1.owns (fun n hn hD => hXo (by rw [hn, hD])) hT.out.own
      have hsw : w.heap.size ≤ w1.heap.size := by have := hs1.out; omega
      have howp := Lib.hid howp
      go_wp2_with (at_builtin; go_must (refine wpList_append_lies _ rfl _ _ 22 rfl w.heap.size 35 i0 _ 6 64 Tryd.underlying22 hi0 hz0 hz1 hz2 rfl (by decide) _ k (rowR rs f k) rfl (howp.out.alloc _) ⟨w1.heap.size, 0, none⟩ 1 1 (cellsR r (A2, c2)) rfl ?a1 ?a2 ?a3 ?a4 ?a5 ?a6 ?a7 _ rfl ?_))
      case a1 => rfl
      case a2 =>
        refine World.news_of_block (cs := (cellsR r (A2, c2)).toArray) (t := 35) (fr := (0, 0)) ?_
        have := heap_alloc_new (w1.setCell ⟨wr.heap.size, 1, none⟩ (.slice A2 r.pf.length c2)) (.cells (cellsR r (A2, c2)).toArray 35)
        rw [show (w1.setCell ⟨wr.heap.size, 1, none⟩ (.slice A2 r.pf.length c2)).heap.size = w1.heap.size from by simp] at this
        exact this
      case a3 =>
        intro u hu
        simp only [cellsR, List.mem_cons, List.not_mem_nil, or_false] at hu
        rcases hu with rfl | rfl | rfl | rfl | rfl | rfl <;> rfl
      case a4 => omega
      case a5 => unfold maxLen; omega
      case a6 => omega
      case a7 => simp; omega
      intro g cap w3 hown hgrow hat hlt3
      have hC := hC.out
      rw [← hrk.out] at hC hown
      obtain ⟨hT3, hK3⟩ := Twin.next hT.out rfl hC hown hgrow (by simpa using hat)
      have hT3 := Lib.hid hT3
      have hB3 : Below w.heap.size w w3 := ((Keep.of_below hB.out).trans (hK3.mono fun n hn hD => by
        rcases hD with hD | hD
        · show w.heap.size ≤ n; omega
        · exact (hT.out.own.lt _ hD).1)).below (Nat.le_refl _)
      have hB3 := Lib.hid hB3
      clear hK3 hown hgrow hat hlt3 hC y0 y1 y2 y3 y4 y5 fz howp
      go_wp2
      go_roundw
      case rel => exact ⟨k + 1, _, by omega, by go_num, hT3.out, hB3.out⟩
      case measure => simp [intOf]; omega
    · have : k = rs.length := by omega
      subst this
      obtain ⟨A', c', rfl, hc', hR'⟩ := hT.rules
      have hR' := Lib.hid hR'
      have hB := Lib.hid hB
      clear hT
      go_wp2
      go_ret
      exact ⟨A', c', rfl, hc', hR'.out, hB.out⟩
end Go.Proofs.YtabinbeohecebaaDoor
