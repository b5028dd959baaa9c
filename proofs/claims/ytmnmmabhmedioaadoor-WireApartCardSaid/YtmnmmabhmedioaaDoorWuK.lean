/- Wire: plain law: two messages have one frame just where they use the same. -/
import Derived.Test.YtmnmmabhmedioaaDoorWuH
namespace Go.Proofs.YtmnmmabhmedioaaDoor
open Go.RowKit
set_option linter.unusedVariables false
set_option linter.unusedSimpArgs false

/-- A message's rows have their lengths. -/
structure MsgOk (m : Msg) : Prop where
  session : m.session.length = 32
  pair : PairOk m.pair
  list : ∀ p ∈ m.list, PairOk p
  bind_ : m.bind_.length = 32
  share : m.share.length = 32
  sig : m.sig.length = 64
theorem MsgIn.ok {w : World} {cs : Array Value} {m : Msg} {LA : Option Addr} {lc : Nat} {TA : Option Addr} {tc : Nat} (h : MsgIn w cs m LA lc TA tc) : MsgOk m :=
  ⟨h.cells.session.1, ⟨h.cells.hid.1, h.cells.bnd.1⟩, PairsOk.mem h.pok, h.cells.bind_.1, h.cells.share.1, h.cells.sig.1⟩
theorem u8_inj {x y : Int} (hx : 0 ≤ x) (hx2 : x ≤ 255) (hy : 0 ≤ y) (hy2 : y ≤ 255) (h : u8 x = u8 y) : x = y := by
  have h1 := nb_u8 hx
  have h2 := nb_u8 hy
  rw [h, h2] at h1
  omega
theorem pairL_inj {p q : Pair} (hp : PairOk p) (hq : PairOk q) (ip : isId p.id = true) (iq : isId q.id = true) {r s : List UInt8} (h : pairL p ++ r = pairL q ++ s) : p = q ∧ r = s := by
  obtain ⟨pi, ph, pb⟩ := p
  obtain ⟨qi, qh, qb⟩ := q
  have hl : (pairL ⟨pi, ph, pb⟩).length = (pairL ⟨qi, qh, qb⟩).length := by rw [pairL_len hp, pairL_len hq]
  obtain ⟨h1, h2⟩ := List.append_inj h hl
  simp only [pairL, List.cons.injEq] at h1
  obtain ⟨h3, h4⟩ := h1
  obtain ⟨h5, h6⟩ := List.append_inj h4 (by rw [hp.1, hq.1])
  have a : 1 ≤ pi ∧ pi ≤ 255 := isId_true.1 ip
  have b : 1 ≤ qi ∧ qi ≤ 255 := isId_true.1 iq
  have h7 := u8_inj (x := pi) (y := qi) (by omega) (by omega) (by omega) (by omega) h3
  exact ⟨by rw [h5, h6, h7], h2⟩
theorem pairsL_inj : ∀ (ps qs : List Pair) (r s : List UInt8), ps.length = qs.length → (∀ p ∈ ps, PairOk p ∧ isId p.id = true) → (∀ p ∈ qs, PairOk p ∧ isId p.id = true) → pairsL ps ++ r = pairsL qs ++ s → ps = qs ∧ r = s
  | [], [], r, s, _, _, _, h => ⟨rfl, by simpa [pairsL] using h⟩
  | [], q :: qs, r, s, hl, _, _, _ => by simp at hl
  | p :: ps, [], r, s, hl, _, _, _ => by simp at hl
  | p :: ps, q :: qs, r, s, hl, hp, hq, h => by
    have h' : pairL p ++ (pairsL ps ++ r) = pairL q ++ (pairsL qs ++ s) := by simpa [pairsL] using h
    obtain ⟨h1, h2⟩ := pairL_inj (hp p (by simp)).1 (hq q (by simp)).1 (hp p (by simp)).2 (hq q (by simp)).2 h'
    obtain ⟨h3, h4⟩ := pairsL_inj ps qs r s (by simpa using hl) (fun x hx => hp x (by simp [hx])) (fun x hx => hq x (by simp [hx])) h2
    exact ⟨by rw [h1, h3], h4⟩
theorem four_inj {a b : Nat} (ha : a < 4294967296) (hb : b < 4294967296) (h : four a = four b) : a = b := by
  rw [← numL_four a ha, ← numL_four b hb, h]
theorem two_inj {a b : Nat} (ha : a < 65536) (hb : b < 65536) (h : two a = two b) : a = b := by
  rw [← numL_two a ha, ← numL_two b hb, h]

/-- What is known of a message that may be. -/
structure MayBe (m : Msg) : Prop where
  k1 : 1 ≤ m.kind
  k6 : m.kind ≤ 6
  f0 : 0 ≤ m.from_
  f1 : m.from_ ≤ 255
  t0 : 0 ≤ m.to_
  t1 : m.to_ ≤ 255
  pid : m.kind = 2 ∨ m.kind = 4 → isId m.pair.id = true
  lst : m.kind = 3 → m.list.length ≤ 255 ∧ m.text.length ≤ 1048575 ∧ ∀ p ∈ m.list, isId p.id = true
  cod : m.kind = 5 → 1 ≤ m.code ∧ m.code ≤ 65535
theorem mayBe {m : Msg} (hf : faultM m = none) : MayBe m := by
  unfold faultM at hf
  by_cases c1 : ¬ (1 ≤ m.kind ∧ m.kind ≤ 6)
  · rw [if_pos c1] at hf; cases hf
  by_cases c2 : ¬ (0 ≤ m.from_ ∧ m.from_ ≤ 255)
  · rw [if_neg c1, if_pos c2] at hf; cases hf
  by_cases c3 : ¬ (0 ≤ m.to_ ∧ m.to_ ≤ 255)
  · rw [if_neg c1, if_neg c2, if_pos c3] at hf; cases hf
  rw [if_neg c1, if_neg c2, if_neg c3] at hf
  refine ⟨by omega, by omega, by omega, by omega, by omega, by omega, fun h => ?_, fun h => ?_, fun h => ?_⟩
  · rw [if_pos h] at hf
    split at hf
    · assumption
    · cases hf
  · rw [if_neg (by omega), if_pos h] at hf
    split at hf; · cases hf
    cases hb : listBad 0 m.list with
    | some i => rw [hb] at hf; cases hf
    | none =>
      rw [hb] at hf
      simp only at hf
      split at hf; · cases hf
      refine ⟨by omega, by omega, fun p hp => ?_⟩
      obtain ⟨i, hi, rfl⟩ := List.mem_iff_getElem.1 hp
      have := listBad_none m.list 0 hb i hi
      rwa [List.getD_eq_getElem?_getD, List.getElem?_eq_getElem hi] at this
  · rw [if_neg (by omega), if_neg (by omega), if_pos h] at hf
    split at hf
    · assumption
    · cases hf

theorem bodyM_used {m : Msg} : bodyM (usedM m) = bodyM m ∧ (usedM m).kind = m.kind := by
  unfold usedM
  by_cases h2 : m.kind = 2
  · simp [h2, baseM, bodyM, restM]
  by_cases h3 : m.kind = 3
  · simp [h3, baseM, bodyM, restM]
  by_cases h4 : m.kind = 4
  · simp [h4, baseM, bodyM, restM]
  by_cases h5 : m.kind = 5
  · simp [h5, baseM, bodyM, restM]
  by_cases h6 : m.kind = 6
  · simp [h6, baseM, bodyM, restM]
  simp [h2, h3, h4, h5, h6, baseM, bodyM, restM]
theorem frame_parts {k1 k2 : UInt8} {b1 b2 : List UInt8} (h1 : b1.length < 4294967296) (h2 : b2.length < 4294967296) (h : frameL k1 b1 = frameL k2 b2) : k1 = k2 ∧ b1 = b2 := by
  have e1 : frameL k1 b1 = 82 :: 73 :: 77 :: 69 :: 1 :: k1 :: (four b1.length ++ (b1 ++ (sha (preL k1 b1)).take 4)) := by simp [frameL, preL]
  have e2 : frameL k2 b2 = 82 :: 73 :: 77 :: 69 :: 1 :: k2 :: (four b2.length ++ (b2 ++ (sha (preL k2 b2)).take 4)) := by simp [frameL, preL]
  rw [e1, e2] at h
  simp only [List.cons.injEq, true_and] at h
  obtain ⟨hk, hr⟩ := h
  obtain ⟨h3, h4⟩ := List.append_inj hr rfl
  exact ⟨hk, (List.append_inj h4 (four_inj h1 h2 h3)).1⟩
theorem used_of_body {m n : Msg} (om : MsgOk m) (on : MsgOk n) (am : MayBe m) (an : MayBe n) (hk : m.kind = n.kind) (hb : bodyM m = bodyM n) : usedM m = usedM n := by
  unfold bodyM at hb
  rw [List.append_assoc, List.append_assoc] at hb
  obtain ⟨h1, h2⟩ := List.append_inj hb (by rw [om.session, on.session])
  obtain ⟨h3, h4⟩ := List.append_inj h2 rfl
  simp only [List.cons.injEq, and_true] at h3
  have h5 := u8_inj am.f0 am.f1 an.f0 an.f1 h3.1
  have h6 := u8_inj am.t0 am.t1 an.t0 an.t1 h3.2
  have hbase : baseM m = baseM n := by simp [baseM, hk, h1, h5, h6]
  unfold restM at h4
  unfold usedM
  by_cases k2 : m.kind = 2
  · have k2' : n.kind = 2 := by omega
    rw [if_pos k2, if_pos k2'] at h4 ⊢
    have h7 := (pairL_inj (r := []) (s := []) om.pair on.pair (am.pid (.inl k2)) (an.pid (.inl k2')) (by simpa using h4)).1
    rw [hbase, h7]
  have k2' : ¬ n.kind = 2 := by omega
  rw [if_neg k2, if_neg k2'] at h4 ⊢
  by_cases k3 : m.kind = 3
  · have k3' : n.kind = 3 := by omega
    rw [if_pos k3, if_pos k3'] at h4 ⊢
    obtain ⟨a1, a2, a3⟩ := am.lst k3
    obtain ⟨b1, b2, b3⟩ := an.lst k3'
    simp only [List.cons_append, List.nil_append, List.append_assoc, List.cons.injEq] at h4
    obtain ⟨h7, h8⟩ := h4
    have h9 : m.list.length = n.list.length := by
      have e := congrArg UInt8.toNat h7
      simp only [UInt8.toNat_ofNat'] at e
      omega
    obtain ⟨h10, h11⟩ := pairsL_inj m.list n.list _ _ h9 (fun p hp => ⟨om.list p hp, a3 p hp⟩) (fun p hp => ⟨on.list p hp, b3 p hp⟩) h8
    have h12 := (List.append_inj h11 rfl).2
    rw [hbase, h10, h12]
  have k3' : ¬ n.kind = 3 := by omega
  rw [if_neg k3, if_neg k3'] at h4 ⊢
  by_cases k4 : m.kind = 4
  · have k4' : n.kind = 4 := by omega
    rw [if_pos k4, if_pos k4'] at h4 ⊢
    rw [List.append_assoc, List.append_assoc] at h4
    obtain ⟨h7, h8⟩ := pairL_inj om.pair on.pair (am.pid (.inr k4)) (an.pid (.inr k4')) h4
    obtain ⟨h9, h10⟩ := List.append_inj h8 (by rw [om.bind_, on.bind_])
    rw [hbase, h7, h9, h10]
  have k4' : ¬ n.kind = 4 := by omega
  rw [if_neg k4, if_neg k4'] at h4 ⊢
  by_cases k5 : m.kind = 5
  · have k5' : n.kind = 5 := by omega
    rw [if_pos k5, if_pos k5'] at h4 ⊢
    have a := am.cod k5
    have b := an.cod k5'
    have h7 := two_inj (by omega) (by omega) h4
    have h8 : m.code = n.code := by omega
    rw [hbase, h8]
  have k5' : ¬ n.kind = 5 := by omega
  rw [if_neg k5, if_neg k5'] at h4 ⊢
  by_cases k6 : m.kind = 6
  · have k6' : n.kind = 6 := by omega
    rw [if_pos k6, if_pos k6'] at h4 ⊢
    rw [hbase, h4]
  have k6' : ¬ n.kind = 6 := by omega
  rw [if_neg k6, if_neg k6'] at ⊢
  exact hbase
/-- One frame just where the same is used. -/
theorem frames_iff {m n : Msg} (om : MsgOk m) (on : MsgOk n) (hf : faultM m = none) (hg : faultM n = none) (lm : (bodyM m).length ≤ 1065189) (ln : (bodyM n).length ≤ 1065189) :
    frameL (u8 m.kind) (bodyM m) = frameL (u8 n.kind) (bodyM n) ↔ usedM m = usedM n := by
  have am := mayBe hf
  have an := mayBe hg
  constructor
  · intro h
    obtain ⟨h1, h2⟩ := frame_parts (by omega) (by omega) h
    have a := am.k1
    have b := am.k6
    have c := an.k1
    have d := an.k6
    exact used_of_body om on am an (u8_inj (by omega) (by omega) (by omega) (by omega) h1) h2
  · intro h
    have h1 := bodyM_used (m := m)
    have h2 := bodyM_used (m := n)
    rw [← h1.1, ← h1.2, h, h2.1, h2.2]
end Go.Proofs.YtmnmmabhmedioaaDoor
