/- Rows of commitments that are owned; append of commitments. -/
import Derived.Test.YtmnmmabhmedioaaDoorWuC
import Derived.Test.YtmnmmabhmedioaaDoorWsE
import Derived.Maps.AppendAt
namespace Go.Proofs.YtmnmmabhmedioaaDoor
open Go.RowKit
set_option linter.unusedVariables false
set_option linter.unusedSimpArgs false
set_option maxRecDepth 100000

def cellsP (ps : List Pair) : List Value := ps.flatMap fun p => (pairA p).toList
/-- A row of commitments that is owned. -/
abbrev OwnP (w : World) (base : Nat) (A : Option Addr) (c : Nat) (ps : List Pair) : Prop := w.ownsRow base 29 65 (.slice A ps.length c) ps.length (cellsP ps)
abbrev PairsOk (ps : List Pair) : Prop := ∀ i, PairOk (ps.getD i Pair.zero)
theorem PairsOk.mem {ps : List Pair} (h : PairsOk ps) : ∀ p ∈ ps, PairOk p := fun p hp => by
  obtain ⟨i, hi, rfl⟩ := List.mem_iff_getElem.1 hp
  have := h i
  rwa [List.getD_eq_getElem?_getD, List.getElem?_eq_getElem hi] at this
theorem PairsOk.of {ps : List Pair} (h : ∀ p ∈ ps, PairOk p) : PairsOk ps := fun i => by
  rw [List.getD_eq_getElem?_getD]
  rcases Nat.lt_or_ge i ps.length with hi | hi
  · rw [List.getElem?_eq_getElem hi]; exact h _ (List.getElem_mem hi)
  · rw [List.getElem?_eq_none hi]; exact pair0_ok
theorem cellsP_len {ps : List Pair} (h : ∀ p ∈ ps, PairOk p) : (cellsP ps).length = ps.length * 65 := by
  induction ps with
  | nil => rfl
  | cons p r ih =>
    have h1 := pairA_size (h p (by simp))
    have h2 := ih (fun q hq => h q (by simp [hq]))
    unfold cellsP at h2 ⊢
    rw [List.flatMap_cons, List.length_append, h2, List.length_cons, Array.length_toList, h1]
    omega
theorem cellsP_get {ps : List Pair} (h : ∀ p ∈ ps, PairOk p) : ∀ (i j : Nat) (v : Value), i < ps.length → (pairA (ps.getD i Pair.zero))[j]? = some v → (cellsP ps)[i * 65 + j]? = some v := by
  induction ps with
  | nil => intro i j v hi; simp at hi
  | cons p r ih =>
    intro i j v hi hv
    have h1 := pairA_size (h p (by simp))
    have h65 : (pairA p).toList.length = 65 := by simpa using h1
    unfold cellsP
    rw [List.flatMap_cons]
    cases i with
    | zero =>
      have hj : j < 65 := by
        rcases Nat.lt_or_ge j 65 with h' | h'
        · exact h'
        · have hv' : (pairA p)[j]? = some v := by simpa using hv
          rw [Array.getElem?_eq_none (by omega)] at hv'; cases hv'
      rw [List.getElem?_append_left (by omega)]
      simpa using hv
    | succ i =>
      rw [List.getElem?_append_right (by omega), show (i + 1) * 65 + j - (pairA p).toList.length = i * 65 + j from by omega]
      exact ih (fun q hq => h q (by simp [hq])) i j v (by simpa using hi) (by simpa using hv)
theorem cellsP_one {ps : List Pair} : ∀ u ∈ cellsP ps, u.oneCell' = true := fun u hu => by
  obtain ⟨p, _, hp⟩ := List.mem_flatMap.1 hu
  exact Array.all_eq_true_iff_forall_mem.1 (pairA_one p) u (by simpa using hp)
theorem OwnP.pairs {w : World} {base : Nat} {A : Option Addr} {c : Nat} {ps : List Pair} (h : OwnP w base A c ps) (hp : ∀ p ∈ ps, PairOk p) : PairsIn w A ps := fun h0 => by
  rcases h.2 with ⟨_, h1⟩ | ⟨g, cap, cur, hv, _⟩
  · omega
  · cases hv
    refine ⟨g, 0, rfl, fun i hi j v hjv => ?_⟩
    have := h.cells (g := g) rfl (i * 65 + j) v (cellsP_get hp i j v hi hjv)
    rw [Go.WideShapes.add_plain] at this
    rw [Nat.zero_add]
    rw [Nat.zero_add] at this
    exact this
theorem OwnP.nil (w : World) (base : Nat) : OwnP w base none 0 [] := World.ownsRow_nil _ _ _ _
theorem OwnP.empty {w : World} {base R : Nat} {cur : Array Value} (h : w.heap[R]? = some (.cells cur 29 (0, 0))) (hc : cur.size = 0) (hb : base ≤ R) : OwnP w base (some ⟨R, 0, none⟩) 0 [] :=
  ⟨rfl, .inr ⟨R, 0, cur, rfl, hb, h, Nat.le_refl _, Nat.zero_le _, by rw [hc], rfl⟩⟩
theorem OwnP.ge {w : World} {base : Nat} {A : Option Addr} {c : Nat} {ps : List Pair} (h : OwnP w base A c ps) : ∀ a, A = some a → base ≤ a.block ∧ a.block < w.heap.size := fun a ha => by
  rcases h.2 with ⟨hv, _⟩ | ⟨g, cap, cur, hv, hb, hg, _⟩
  · subst ha; cases hv
  · subst ha; cases hv; exact ⟨hb, heap_lt hg⟩
theorem OwnP.ne {w : World} {base : Nat} {A : Option Addr} {c : Nat} {ps : List Pair} (h : OwnP w base A c ps) {b : Nat} {cs : Array Value} {T : TypeId} {fz : Nat × Nat} (hb : w.heap[b]? = some (.cells cs T fz)) (hT : T ≠ 29) : ∀ a, A = some a → a.block ≠ b := fun a ha e => by
  rcases h.2 with ⟨hv, _⟩ | ⟨g, cap, cur, hv, _, hg, _⟩
  · subst ha; cases hv
  · subst ha; cases hv
    have e : g = b := e
    subst e
    rw [hg] at hb
    cases hb
    exact hT rfl
theorem OwnP.keep {D : Nat → Prop} {w w' : World} {base : Nat} {A : Option Addr} {c : Nat} {ps : List Pair} (k : Keep D w w') (hn : ∀ a, A = some a → ¬ D a.block) (h : OwnP w base A c ps) : OwnP w' base A c ps :=
  k.owns (fun g hg => by cases A with
    | none => cases hg
    | some a => cases hg; exact hn a rfl) h
theorem OwnP.on {w w' : World} {base : Nat} {A : Option Addr} {c : Nat} {ps : List Pair} (hb : Below w.heap.size w w') (h : OwnP w base A c ps) : OwnP w' base A c ps := h.keep (Keep.of_below (D := fun _ => False) hb) (fun _ _ => id)
theorem OwnP.lower {w : World} {base B : Nat} {A : Option Addr} {c : Nat} {ps : List Pair} (h : OwnP w base A c ps) (hb : B ≤ base) : OwnP w B A c ps := by
  rcases h.2 with ⟨hv, h1⟩ | ⟨g, cap, cur, hv, h2, h3⟩
  · exact ⟨h.1, .inl ⟨hv, h1⟩⟩
  · exact ⟨h.1, .inr ⟨g, cap, cur, hv, Nat.le_trans hb h2, h3⟩⟩
theorem OwnP.cap {w : World} {base : Nat} {A : Option Addr} {c : Nat} {ps : List Pair} (h : OwnP w base A c ps) : ps.length ≤ c := by
  rcases h.2 with ⟨hv, h1⟩ | ⟨g, cap, cur, hv, _, _, h1, _⟩
  · omega
  · cases hv; exact h1
theorem infP : (Tryd.prog.info? 29).map (fun i => (i.zero, i.size, i.bytes)) = some (some (.agg Tryd.zeroCells29), 65, 72) := by kernel_rfl

section
variable (w : World)
/-- append(v, commitments...): whatever lies behind the heads, nothing among it. -/
theorem run_append_ps (ty : TypeId) (base : Nat) (A : Option Addr) (c : Nat) (xs : List Pair) (hown : OwnP w base A c xs)
    (X : Option Addr) (d : Nat) (l : List Pair) (hX : PairsIn w X l) (pl : ∀ p ∈ l, PairOk p) (hm : xs.length + l.length ≤ 1000000000000) (hbase : base ≤ w.heap.size) :
    ∃ A' c' w', (Builtin.append_ #[30, 30] ty #[.slice A xs.length c, .slice X l.length d]).run Tryd.prog w = .ok (.slice A' (xs.length + l.length) c') w' ∧
      OwnP w' base A' c' (xs ++ l) ∧ w.grownBy w' (Value.slice A xs.length c).ownBlock := by
  obtain ⟨i, hi, hz, hs, hby⟩ := info_parts infP
  have fin : ∀ {v' : Value} {w' : World} {n : Nat} {ys : List Value}, w'.ownsRow base 29 65 v' n ys → ∃ A' c', v' = .slice A' n c' := fun h => by
    rcases h.2 with ⟨hv, h1⟩ | ⟨g, cap, cur, hv, _⟩
    · exact ⟨_, _, by rw [hv, h1]⟩
    · exact ⟨_, _, hv⟩
  have len : ∀ {w' : World} {A' : Option Addr} {c' : Nat}, w'.ownsRow base 29 65 (.slice A' (xs.length + l.length) c') (xs.length + l.length) (cellsP xs ++ cellsP l) → OwnP w' base A' c' (xs ++ l) := fun h => by
    unfold OwnP cellsP
    rw [List.length_append, List.flatMap_append]
    exact h
  have go : ∀ a : Addr, X = some a → (∀ j u, (cellsP l)[j]? = some u → w.cell? (a.add j) = some u) → ∃ A' c' w', (Builtin.append_ #[30, 30] ty #[.slice A xs.length c, .slice X l.length d]).run Tryd.prog w = .ok (.slice A' (xs.length + l.length) c') w' ∧
      OwnP w' base A' c' (xs ++ l) ∧ w.grownBy w' (Value.slice A xs.length c).ownBlock := fun a ha hc => by
    obtain ⟨v', w', hr, h2, h3, _, h5⟩ := run_append_own_at (P := Tryd.prog) w base 30 ty 29 i (.agg Tryd.zeroCells29) 65 72 Tryd.underlying30 hi hz hs hby (by kernel_rfl) (by decide) (.slice A xs.length c) xs.length (cellsP xs) hown a l.length d (cellsP l) (cellsP_len pl) hc cellsP_one (by unfold maxLen; omega) (by omega) hbase
    obtain ⟨A', c', rfl⟩ := fin h2
    exact ⟨A', c', w', by rw [ha]; exact hr, len h2, h3⟩
  rcases Nat.eq_zero_or_pos l.length with h0 | h0
  · obtain rfl : l = [] := List.eq_nil_of_length_eq_zero h0
    cases X with
    | some a => exact go a rfl (fun j u h => by simp [cellsP] at h)
    | none =>
      rcases hown.2 with ⟨hv, h1⟩ | ⟨g, cap, cur, hv, hb, hg, h1, _⟩
      · obtain ⟨rfl, -, rfl⟩ := Value.slice.inj hv
        obtain rfl : xs = [] := List.eq_nil_of_length_eq_zero h1
        refine ⟨none, 0, w, ?_, World.ownsRow_nil _ _ _ _, ⟨rfl, rfl, rfl, Nat.le_refl _, fun _ _ _ => rfl⟩⟩
        simp [Builtin.append_, run_underlying Tryd.underlying30, sizeOf, typeInfo, hi, Builtin.lenOf, Builtin.firstCells]
      · cases hv
        refine ⟨some ⟨g, 0, none⟩, c, w, ?_, len (by rw [show cellsP xs ++ cellsP [] = cellsP xs from by simp [cellsP]]; exact hown), ⟨rfl, rfl, rfl, Nat.le_refl _, fun _ _ _ => rfl⟩⟩
        simp [Builtin.append_, run_underlying Tryd.underlying30, sizeOf, typeInfo, hi, Builtin.lenOf, Builtin.firstCells, h1, storeCells]
  · obtain ⟨b, o, rfl, hc⟩ := hX h0
    refine go _ rfl fun j u hu => ?_
    have hj : j < l.length * 65 := by
      rw [← cellsP_len pl]
      rcases Nat.lt_or_ge j (cellsP l).length with h' | h'
      · exact h'
      · rw [List.getElem?_eq_none h'] at hu; cases hu
    have hi2 : j / 65 < l.length := by omega
    have h65 := pairA_size (PairsOk.of pl (j / 65))
    obtain ⟨v, hv⟩ : ∃ v, (pairA (l.getD (j / 65) Pair.zero))[j % 65]? = some v := ⟨_, Array.getElem?_eq_getElem (by omega)⟩
    have h1 := hc (j / 65) hi2 (j % 65) v hv
    have h2 := cellsP_get pl (j / 65) (j % 65) v hi2 hv
    rw [show j / 65 * 65 + j % 65 = j from by omega, hu] at h2
    cases h2
    rw [Go.WideShapes.add_plain, ← h1, show o + j / 65 * 65 + j % 65 = o + j from by omega]
theorem wpList_append_ps {ops : Array Oper} {rest : List Oper} {o : Oper} {a : Act} {Q : Exit → Act → World → Prop} (hgd : o.guard = none) (s x : Operand)
    (ho : o.op = .call { callee := .builtin .append, args := #[s, x], argTypes := #[30, 30] })
    (base : Nat) (A : Option Addr) (n c : Nat) (xs : List Pair) (hn : xs.length = n) (hs : a.eval s = .slice A n c) (hown : OwnP w base A c xs)
    (X : Option Addr) (m d : Nat) (l : List Pair) (hl : l.length = m) (hx : a.eval x = .slice X m d) (hX : PairsIn w X l) (pl : ∀ p ∈ l, PairOk p) (hm : xs.length + l.length ≤ 1000000000000) (hbase : base ≤ w.heap.size)
    (h : ∀ A' c' w', OwnP w' base A' c' (xs ++ l) → w.grownBy w' (Value.slice A n c).ownBlock → wpList Tryd.prog ops Q rest (a.put o.dst (.slice A' (n + m) c')) w') : wpList Tryd.prog ops Q (o :: rest) a w := by
  subst hn
  subst hl
  refine wpList_plain hgd fun K hK => ?_
  obtain ⟨A', c', w', hr, h2, h3⟩ := run_append_ps w o.type base A c xs hown X d l hX pl hm hbase
  unfold Oper.wp execOp
  simp only [ho, resolve, invoke, builtin, Sem.run_bind, Sem.run_pure, Result.andThen_ok, List.map_toArray, List.map_cons, List.map_nil, hs, hx, hr]
  exact hK _ _ (h A' c' w' h2 h3)
end
theorem grewP_box {w w' : World} {base : Nat} {A : Option Addr} {c n : Nat} {l : List Pair} (hO : OwnP w base A c l) (hg : w.grownBy w' (Value.slice A n c).ownBlock) {X : Nat} {cs : Array Value} {T : TypeId} {fz : Nat × Nat}
    (hX : w.heap[X]? = some (.cells cs T fz)) (hT : T ≠ 29) : w'.heap[X]? = some (.cells cs T fz) :=
  (keep_grew (D := fun k => k ≠ X) hg (fun a ha => hO.ne hX hT a ha)).heap (by simp) hX
theorem below_grewP {B base : Nat} {a w w' : World} {A : Option Addr} {c n : Nat} {l : List Pair} (h : Below B a w) (hO : OwnP w base A c l) (hb : B ≤ base) (hs : B ≤ w.heap.size) (hg : w.grownBy w' (Value.slice A n c).ownBlock) : Below B a w' :=
  h.grown hg hs (fun k hk => by
    cases A with
    | none => cases hk
    | some x => cases hk; exact Nat.le_trans hb (hO.ge x rfl).1)
end Go.Proofs.YtmnmmabhmedioaaDoor
