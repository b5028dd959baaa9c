/- Bytes behind a slice's head; rows of bytes that are owned; append of bytes. -/
import Derived.Test.YtmnmmabhmedioaaDoorWord
import Derived.Deep.AppendLies
import Derived.Deep.RegionLaw
import Derived.Laws.CopyOwn
import Derived.Laws.MakeOwn
import Derived.Deep.MidRow
import Derived.Deep.WholeRow
namespace Go.Proofs.YtmnmmabhmedioaaDoor
open Go.RowKit
set_option linter.unusedVariables false
set_option linter.unusedSimpArgs false

theorem inf5 : (Tryd.prog.info? 5).map (fun i => (i.zero, i.size, i.bytes)) = some (some (.int .u8 0), 1, 1) := by kernel_rfl

theorem boxed (w : World) (o : Obj) : Below w.heap.size w (w.alloc o) := (Below.refl _ _).alloc (Nat.le_refl _) o

/-- Bytes behind a slice's head. -/
def Bs (w : World) (A : Option Addr) (l : List UInt8) : Prop := 0 < l.length → ∃ b o, A = some ⟨b, o, none⟩ ∧ ∀ i, i < l.length → w.cell? ⟨b, o + i, none⟩ = some (B8 (l.getD i 0))
theorem Bs.on {w w' : World} {A : Option Addr} {l : List UInt8} (hb : Below w.heap.size w w') (h : Bs w A l) : Bs w' A l := fun h0 => by
  obtain ⟨b, o, rfl, hc⟩ := h h0
  exact ⟨b, o, rfl, fun i hi => cell_on hb (hc i hi)⟩
theorem Bs.keep {D : Nat → Prop} {w w' : World} {A : Option Addr} {l : List UInt8} (h : Keep D w w') (hn : ∀ a, A = some a → ¬ D a.block) (hb : Bs w A l) : Bs w' A l := fun h0 => by
  obtain ⟨b, o, rfl, hc⟩ := hb h0
  exact ⟨b, o, rfl, fun i hi => h.cell (hn ⟨b, o, none⟩ rfl) (hc i hi)⟩
theorem Bs.below {B : Nat} {w w' : World} {A : Option Addr} {l : List UInt8} (h : Below B w w') (hn : ∀ a, A = some a → a.block < B) (hb : Bs w A l) : Bs w' A l := fun h0 => by
  obtain ⟨b, o, rfl, hc⟩ := hb h0
  exact ⟨b, o, rfl, fun i hi => (h.cell (p := ⟨b, o + i, none⟩) (hn ⟨b, o, none⟩ rfl)).trans (hc i hi)⟩
theorem Bs.nil (w : World) (A : Option Addr) : Bs w A [] := fun h => absurd h (by simp)
theorem Bs.drewN {w : World} {A : Option Addr} {l : List UInt8} (h : Bs w A l) (n : Nat) : Bs (w.drewN n) A l := h
theorem getD_drop (l : List UInt8) (k i : Nat) : (l.drop k).getD i 0 = l.getD (k + i) 0 := by simp [List.getD_eq_getElem?_getD]
theorem getD_take (l : List UInt8) {k i : Nat} (h : i < k) : (l.take k).getD i 0 = l.getD i 0 := by simp [List.getD_eq_getElem?_getD, List.getElem?_take, h]
theorem Bs.drop {w : World} {b o : Nat} {l : List UInt8} (h : Bs w (some ⟨b, o, none⟩) l) (k : Nat) : Bs w (some ⟨b, o + k, none⟩) (l.drop k) := fun h0 => by
  simp only [List.length_drop] at h0
  obtain ⟨b', o', e, hc⟩ := h (by omega)
  cases e
  refine ⟨b, o + k, rfl, fun i hi => ?_⟩
  simp only [List.length_drop] at hi
  rw [getD_drop, Nat.add_assoc]
  exact hc (k + i) (by omega)
theorem Bs.take {w : World} {A : Option Addr} {l : List UInt8} (h : Bs w A l) (k : Nat) : Bs w A (l.take k) := fun h0 => by
  simp only [List.length_take] at h0
  obtain ⟨b, o, rfl, hc⟩ := h (by omega)
  refine ⟨b, o, rfl, fun i hi => ?_⟩
  simp only [List.length_take] at hi
  rw [getD_take _ (by omega)]
  exact hc i (by omega)
theorem Bs.at {w : World} {b o : Nat} {l : List UInt8} (h : Bs w (some ⟨b, o, none⟩) l) (i : Nat) (hi : i < l.length) : w.cell? ⟨b, o + i, none⟩ = some (B8 (l.getD i 0)) := by
  obtain ⟨b', o', e, hc⟩ := h (by omega)
  cases e
  exact hc i hi

/-- A row of bytes that is owned. -/
abbrev OwnB (w : World) (base : Nat) (A : Option Addr) (c : Nat) (l : List UInt8) : Prop := w.ownsRow base 5 1 (.slice A l.length c) l.length (l.map B8)
theorem OwnB.bs {w : World} {base : Nat} {A : Option Addr} {c : Nat} {l : List UInt8} (h : OwnB w base A c l) : Bs w A l := fun h0 => by
  rcases h.2 with ⟨_, h1⟩ | ⟨g, cap, cur, hv, _⟩
  · omega
  · cases hv
    refine ⟨g, 0, rfl, fun i hi => ?_⟩
    have := h.cells (g := g) rfl i (B8 (l.getD i 0)) (by rw [List.getElem?_map, List.getD_eq_getElem?_getD, List.getElem?_eq_getElem hi]; rfl)
    rw [Go.WideShapes.add_plain] at this
    exact this
theorem OwnB.nil (w : World) (base : Nat) : OwnB w base none 0 [] := World.ownsRow_nil _ _ _ _
theorem OwnB.form {w : World} {base : Nat} {A : Option Addr} {c : Nat} {l : List UInt8} (h : OwnB w base A c l) : (A = none ∧ c = 0 ∧ l = []) ∨ ∃ g cur, A = some ⟨g, 0, none⟩ ∧ base ≤ g ∧ w.heap[g]? = some (.cells cur 5 (0, 0)) ∧ l.length ≤ c := by
  rcases h.2 with ⟨hv, h1⟩ | ⟨g, cap, cur, hv, hb, hg, h1, _⟩
  · obtain ⟨rfl, -, rfl⟩ := Value.slice.inj hv; exact .inl ⟨rfl, rfl, List.eq_nil_of_length_eq_zero h1⟩
  · cases hv; exact .inr ⟨g, cur, rfl, hb, hg, h1⟩
theorem OwnB.ge {w : World} {base : Nat} {A : Option Addr} {c : Nat} {l : List UInt8} (h : OwnB w base A c l) : ∀ a, A = some a → base ≤ a.block ∧ a.block < w.heap.size := fun a ha => by
  rcases h.form with ⟨h0, _⟩ | ⟨g, cur, h1, hb, hg, _⟩
  · rw [h0] at ha; cases ha
  · rw [h1] at ha; cases ha; exact ⟨hb, heap_lt hg⟩
/-- In a block of another type there is no such row. -/
theorem OwnB.ne {w : World} {base : Nat} {A : Option Addr} {c : Nat} {l : List UInt8} (h : OwnB w base A c l) {b : Nat} {cs : Array Value} {T : TypeId} {fz : Nat × Nat} (hb : w.heap[b]? = some (.cells cs T fz)) (hT : T ≠ 5) : ∀ a, A = some a → a.block ≠ b := fun a ha e => by
  rcases h.form with ⟨h0, _⟩ | ⟨g, cur, h1, _, hg, _⟩
  · rw [h0] at ha; cases ha
  · rw [h1] at ha; cases ha
    have e : g = b := e
    subst e
    rw [hg] at hb
    cases hb
    exact hT rfl
theorem OwnB.keep {D : Nat → Prop} {w w' : World} {base : Nat} {A : Option Addr} {c : Nat} {l : List UInt8} (k : Keep D w w') (hn : ∀ a, A = some a → ¬ D a.block) (h : OwnB w base A c l) : OwnB w' base A c l :=
  k.owns (fun g hg => by cases A with
    | none => cases hg
    | some a => cases hg; exact hn a rfl) h
theorem OwnB.on {w w' : World} {base : Nat} {A : Option Addr} {c : Nat} {l : List UInt8} (hb : Below w.heap.size w w') (h : OwnB w base A c l) : OwnB w' base A c l := h.keep (Keep.of_below (D := fun _ => False) hb) (fun _ _ => id)
theorem OwnB.none_of {w : World} {base : Nat} {A : Option Addr} {c : Nat} {l : List UInt8} (h : OwnB w base A c l) : OwnB w base A c [] := by
  rcases h.2 with ⟨hv, h1⟩ | ⟨g, cap, cur, hv, hb, hg, h1, h2, h3, h4⟩
  · obtain ⟨rfl, -, rfl⟩ := Value.slice.inj hv
    exact World.ownsRow_nil _ _ _ _
  · cases hv
    exact ⟨rfl, .inr ⟨g, c, cur, rfl, hb, hg, Nat.zero_le _, h2, h3, rfl⟩⟩
theorem one_bytes {l : List UInt8} : ∀ u ∈ l.map B8, u.oneCell' = true := fun u hu => by
  obtain ⟨x, _, rfl⟩ := List.mem_map.1 hu; rfl
theorem news_bs {W : World} {b o : Nat} {l : List UInt8} (h : ∀ i, i < l.length → W.cell? ⟨b, o + i, none⟩ = some (B8 (l.getD i 0))) : ∀ j u, (l.map B8)[j]? = some u → W.cell? ((⟨b, o, none⟩ : Addr).add j) = some u := fun j u hu => by
  have hj : j < l.length := by
    rcases Nat.lt_or_ge j l.length with h' | h'
    · exact h'
    · rw [List.getElem?_eq_none (by simpa using h')] at hu; cases hu
  rw [Go.WideShapes.add_plain, h j hj]
  rw [List.getElem?_map, List.getElem?_eq_getElem hj] at hu
  simp only [Option.map_some, Option.some.injEq] at hu
  rw [← hu, List.getD_eq_getElem?_getD, List.getElem?_eq_getElem hj]; rfl

theorem Bs.one (w : World) (x : UInt8) (T : TypeId) : Bs (w.alloc (.cells #[.int .u8 (nb x)] T)) (some ⟨w.heap.size, 0, none⟩) [x] := fun _ => ⟨_, _, rfl, fun i hi => by
  obtain rfl : i = 0 := by simpa using hi
  exact cell_of (heap_alloc_new w _) rfl⟩
theorem Bs.arr {w : World} {b o : Nat} {l : List UInt8} (h : ∀ i, i < l.length → w.cell? ⟨b, o + i, none⟩ = some (B8 (l.getD i 0))) : Bs w (some ⟨b, o, none⟩) l := fun _ => ⟨_, _, rfl, h⟩
theorem below_grew {B base : Nat} {a w w' : World} {A : Option Addr} {c n : Nat} {l : List UInt8} (h : Below B a w) (hO : OwnB w base A c l) (hb : B ≤ base) (hs : B ≤ w.heap.size) (hg : w.grownBy w' (Value.slice A n c).ownBlock) : Below B a w' :=
  h.grown hg hs (fun k hk => by
    cases A with
    | none => cases hk
    | some x => cases hk; exact Nat.le_trans hb (hO.ge x rfl).1)
theorem keep_grew {D : Nat → Prop} {w w' : World} {A : Option Addr} {c n : Nat} (hg : w.grownBy w' (Value.slice A n c).ownBlock) (hn : ∀ a, A = some a → D a.block) : Keep D w w' :=
  Keep.grown hg (fun k hk => by
    cases A with
    | none => cases hk
    | some x => cases hk; exact hn x rfl)

theorem below_keep {B : Nat} {a w w' : World} {D : Nat → Prop} (h : Below B a w) (k : Keep D w w') (hD : ∀ i, D i → B ≤ i) (hs : B ≤ w.heap.size) : Below B a w' :=
  ⟨k.os.trans h.os, k.tape.trans h.tape, k.output.trans h.output, Nat.le_trans h.size k.size, fun i hi => (k.block i (Nat.lt_of_lt_of_le hi hs) (fun hd => by have := hD i hd; omega)).trans (h.block i hi)⟩

section
variable {P : Program} (w : World)

/-- append(v, bytes...): whatever lies behind the heads, nothing among it. -/
theorem run_append_bs (t ty : TypeId) (base : Nat) (i : TypeInfo) (ht : P.underlying t = some (.slice 5)) (hi : P.info? 5 = some i) (hz : i.zero = some (.int .u8 0))
    (hs : i.size = 1) (hby : i.bytes = 1) (A : Option Addr) (c : Nat) (xs : List UInt8) (hown : OwnB w base A c xs)
    (X : Option Addr) (d : Nat) (l : List UInt8) (hX : Bs w X l) (hm : xs.length + l.length ≤ 140737488355328) (hbase : base ≤ w.heap.size) :
    ∃ A' c' w', (Builtin.append_ #[t, t] ty #[.slice A xs.length c, .slice X l.length d]).run P w = .ok (.slice A' (xs.length + l.length) c') w' ∧
      OwnB w' base A' c' (xs ++ l) ∧ w.grownBy w' (Value.slice A xs.length c).ownBlock ∧ ((Value.slice A' (xs.length + l.length) c').ownBlock = (Value.slice A xs.length c).ownBlock ∨ (Value.slice A' (xs.length + l.length) c').ownBlock = some w.heap.size) := by
  have fin : ∀ {v' : Value} {w' : World} {n : Nat} {ys : List Value}, w'.ownsRow base 5 1 v' n ys → ∃ A' c', v' = .slice A' n c' := fun h => by
    rcases h.2 with ⟨hv, h1⟩ | ⟨g, cap, cur, hv, _⟩
    · exact ⟨_, _, by rw [hv, h1]⟩
    · exact ⟨_, _, hv⟩
  have len : ∀ {w' : World} {A' : Option Addr} {c' : Nat}, w'.ownsRow base 5 1 (.slice A' (xs.length + l.length) c') (xs.length + l.length) (xs.map B8 ++ l.map B8) → OwnB w' base A' c' (xs ++ l) := fun h => by
    unfold OwnB
    rw [List.length_append, List.map_append]
    exact h
  have go : ∀ a : Addr, X = some a → (∀ j u, (l.map B8)[j]? = some u → w.cell? (a.add j) = some u) → ∃ A' c' w', (Builtin.append_ #[t, t] ty #[.slice A xs.length c, .slice X l.length d]).run P w = .ok (.slice A' (xs.length + l.length) c') w' ∧
      OwnB w' base A' c' (xs ++ l) ∧ w.grownBy w' (Value.slice A xs.length c).ownBlock ∧ ((Value.slice A' (xs.length + l.length) c').ownBlock = (Value.slice A xs.length c).ownBlock ∨ (Value.slice A' (xs.length + l.length) c').ownBlock = some w.heap.size) := fun a ha hc => by
    obtain ⟨v', w', hr, h2, h3, _, h5⟩ := run_append_own_at (P := P) w base t ty 5 i (.int .u8 0) 1 1 ht hi hz hs hby rfl (by decide) (.slice A xs.length c) xs.length (xs.map B8) hown a l.length d (l.map B8) (by simp) hc one_bytes (by unfold maxLen; omega) (by omega) hbase
    obtain ⟨A', c', rfl⟩ := fin h2
    exact ⟨A', c', w', by rw [ha]; exact hr, len h2, h3, h5⟩
  rcases Nat.eq_zero_or_pos l.length with h0 | h0
  · obtain rfl : l = [] := List.eq_nil_of_length_eq_zero h0
    cases X with
    | some a => exact go a rfl (fun j u h => by simp at h)
    | none =>
      rcases hown.2 with ⟨hv, h1⟩ | ⟨g, cap, cur, hv, hb, hg, h1, _⟩
      · obtain ⟨rfl, -, rfl⟩ := Value.slice.inj hv
        obtain rfl : xs = [] := List.eq_nil_of_length_eq_zero h1
        refine ⟨none, 0, w, ?_, World.ownsRow_nil _ _ _ _, ⟨rfl, rfl, rfl, Nat.le_refl _, fun _ _ _ => rfl⟩, .inl rfl⟩
        simp [Builtin.append_, run_underlying ht, sizeOf, typeInfo, hi, Builtin.lenOf, Builtin.firstCells]
      · cases hv
        refine ⟨some ⟨g, 0, none⟩, c, w, ?_, len (by simpa using hown), ⟨rfl, rfl, rfl, Nat.le_refl _, fun _ _ _ => rfl⟩, .inl rfl⟩
        simp [Builtin.append_, run_underlying ht, sizeOf, typeInfo, hi, Builtin.lenOf, Builtin.firstCells, h1, storeCells]
  · obtain ⟨b, o, rfl, hc⟩ := hX h0
    exact go _ rfl (news_bs hc)

theorem wp_append_bs {o : Oper} {a : Act} {K : Act → World → Prop} {Q : Exit → Act → World → Prop} (s x : Operand) (t : TypeId)
    (ho : o.op = .call { callee := .builtin .append, args := #[s, x], argTypes := #[t, t] })
    (base : Nat) (i : TypeInfo) (ht : P.underlying t = some (.slice 5)) (hi : P.info? 5 = some i) (hz : i.zero = some (.int .u8 0))
    (hsz : i.size = 1) (hby : i.bytes = 1) (A : Option Addr) (n c : Nat) (xs : List UInt8) (hn : xs.length = n) (hs : a.eval s = .slice A n c) (hown : OwnB w base A c xs)
    (X : Option Addr) (m d : Nat) (l : List UInt8) (hl : l.length = m) (hx : a.eval x = .slice X m d) (hX : Bs w X l) (hm : xs.length + l.length ≤ 140737488355328) (hbase : base ≤ w.heap.size)
    (h : ∀ A' c' w', OwnB w' base A' c' (xs ++ l) → w.grownBy w' (Value.slice A n c).ownBlock → ((Value.slice A' (n + m) c').ownBlock = (Value.slice A n c).ownBlock ∨ (Value.slice A' (n + m) c').ownBlock = some w.heap.size) → K (a.put o.dst (.slice A' (n + m) c')) w') : o.wp P a w K Q := by
  subst hn
  subst hl
  obtain ⟨A', c', w', hr, h2, h3, h4⟩ := run_append_bs (P := P) w t o.type base i ht hi hz hsz hby A c xs hown X d l hX hm hbase
  unfold Oper.wp execOp
  simp only [ho, resolve, invoke, builtin, Sem.run_bind, Sem.run_pure, Result.andThen_ok, List.map_toArray, List.map_cons, List.map_nil, hs, hx, hr]
  exact h A' c' w' h2 h3 h4
theorem wpList_append_bs {ops : Array Oper} {rest : List Oper} {o : Oper} {a : Act} {Q : Exit → Act → World → Prop} (hgd : o.guard = none) (s x : Operand) (t : TypeId)
    (ho : o.op = .call { callee := .builtin .append, args := #[s, x], argTypes := #[t, t] })
    (base : Nat) (i : TypeInfo) (ht : P.underlying t = some (.slice 5)) (hi : P.info? 5 = some i) (hz : i.zero = some (.int .u8 0))
    (hsz : i.size = 1) (hby : i.bytes = 1) (A : Option Addr) (n c : Nat) (xs : List UInt8) (hn : xs.length = n) (hs : a.eval s = .slice A n c) (hown : OwnB w base A c xs)
    (X : Option Addr) (m d : Nat) (l : List UInt8) (hl : l.length = m) (hx : a.eval x = .slice X m d) (hX : Bs w X l) (hm : xs.length + l.length ≤ 140737488355328) (hbase : base ≤ w.heap.size)
    (h : ∀ A' c' w', OwnB w' base A' c' (xs ++ l) → w.grownBy w' (Value.slice A n c).ownBlock → ((Value.slice A' (n + m) c').ownBlock = (Value.slice A n c).ownBlock ∨ (Value.slice A' (n + m) c').ownBlock = some w.heap.size) → wpList P ops Q rest (a.put o.dst (.slice A' (n + m) c')) w') : wpList P ops Q (o :: rest) a w :=
  wpList_plain hgd fun _ hK => wp_append_bs w s x t ho base i ht hi hz hsz hby A n c xs hn hs hown X m d l hl hx hX hm hbase fun A' c' w' h2 h3 h4 => hK _ _ (h A' c' w' h2 h3 h4)
theorem step_append_bs {ops : Array Oper} {o : Oper} {a : Act} {K : Act → World → Prop} {Q : Exit → Act → World → Prop} {E : Prop} (hgd : o.guard = none) (s x : Operand) (t : TypeId)
    (ho : o.op = .call { callee := .builtin .append, args := #[s, x], argTypes := #[t, t] })
    (base : Nat) (i : TypeInfo) (ht : P.underlying t = some (.slice 5)) (hi : P.info? 5 = some i) (hz : i.zero = some (.int .u8 0))
    (hsz : i.size = 1) (hby : i.bytes = 1) (A : Option Addr) (n c : Nat) (xs : List UInt8) (hn : xs.length = n) (hs : a.eval s = .slice A n c) (hown : OwnB w base A c xs)
    (X : Option Addr) (m d : Nat) (l : List UInt8) (hl : l.length = m) (hx : a.eval x = .slice X m d) (hX : Bs w X l) (hm : xs.length + l.length ≤ 140737488355328) (hbase : base ≤ w.heap.size)
    (h : ∀ A' c' w', OwnB w' base A' c' (xs ++ l) → w.grownBy w' (Value.slice A n c).ownBlock → ((Value.slice A' (n + m) c').ownBlock = (Value.slice A n c).ownBlock ∨ (Value.slice A' (n + m) c').ownBlock = some w.heap.size) → K (a.put o.dst (.slice A' (n + m) c')) w') :
    if Region.wanted o (yielded ops a.tmps) = true then Oper.wp P o a w K Q else E := by
  rw [if_pos (by simp [Region.wanted, hgd])]
  exact wp_append_bs w s x t ho base i ht hi hz hsz hby A n c xs hn hs hown X m d l hl hx hX hm hbase h
end

section
variable {P : Program} (w : World)

theorem setRow_keep (w : World) (g : Nat) (cs : Array Value) : Keep (fun k => k = g) w (w.setRow g cs) := Keep.grown (row := some g) ⟨rfl, rfl, rfl, by simp, fun k _ hk => setRow_other w g k _ (fun e => hk (by rw [e]))⟩ (fun k hk => by cases hk; rfl)

/-- copy(out, bytes) into a row of zeros that has just been made. -/
theorem run_copy_made (t ty : TypeId) (ht : P.underlying t = some (.slice 5)) (hs : (P.info? 5).map (·.size) = some 1) (base R n c C : Nat) (hR : w.heap[R]? = some (.cells (madeCells #[.int .u8 0] C) 5 (0, 0))) (hb : base ≤ R)
    (X : Option Addr) (l : List UInt8) (hX : Bs w X l) (hl : l.length = n) (hn : n ≤ C) (hC : C ≤ maxLen) :
    ∃ w', (Builtin.copy_ #[t, t] ty #[.slice (some ⟨R, 0, none⟩) n C, .slice X n c]).run P w = .ok (goInt n) w' ∧ OwnB w' base (some ⟨R, 0, none⟩) C l ∧ Keep (fun k => k = R) w w' := by
  subst hl
  rcases Nat.eq_zero_or_pos l.length with h0 | h0
  · obtain rfl : l = [] := List.eq_nil_of_length_eq_zero h0
    refine ⟨w, run_copy_none (P := P) w t t ty 5 (some ⟨R, 0, none⟩) X 0 C 0 c ht hs rfl, ?_, Keep.refl _ _⟩
    exact ⟨rfl, .inr ⟨R, C, _, rfl, hb, hR, Nat.zero_le _, hC, by simp [size_madeCells], rfl⟩⟩
  · obtain ⟨b, o, rfl, hc⟩ := hX h0
    have hz : (madeCells #[Value.int .u8 0] C).size = C := size_madeCells _ _
    have hr := run_copy_row (P := P) w t t ty 5 R 0 l.length C ⟨b, o, none⟩ l.length c _ 5 (l.map B8) ht hs hR (by simp) (news_bs hc) (by simp [hz]; omega) one_bytes
    simp only [List.length_map] at hr
    refine ⟨_, hr, ?_, setRow_keep _ _ _⟩
    refine ⟨by simp, .inr ⟨R, C, _, rfl, hb, setRow_heap w R _ _ 5 _ hR, hn, hC, ?_, ?_⟩⟩
    · simp [hz]
      omega
    · simp
theorem wpList_copy_run {ops : Array Oper} {rest : List Oper} {o : Oper} {a : Act} {Q : Exit → Act → World → Prop} (hgd : o.guard = none) (d s : Operand) (dT sT : TypeId)
    (ho : o.op = .call { callee := .builtin .copy, args := #[d, s], argTypes := #[dT, sT] }) (vd vs : Value) (hd : a.eval d = vd) (hs : a.eval s = vs) (v' : Value) (w' : World)
    (hr : (Builtin.copy_ #[dT, sT] o.type #[vd, vs]).run P w = .ok v' w') (h : wpList P ops Q rest (a.put o.dst v') w') : wpList P ops Q (o :: rest) a w := by
  refine wpList_plain hgd fun K hK => ?_
  unfold Oper.wp
  simp only [execOp, ho, resolve, invoke, builtin, Sem.run_bind, Sem.run_pure, Result.andThen_ok, List.map_toArray, List.map_cons, List.map_nil, hd, hs, hr]
  exact hK _ _ h
theorem wpList_storeW {ops : Array Oper} {rest : List Oper} {op : Oper} {a : Act} {Q : Exit → Act → World → Prop} (hgd : op.guard = none) (ty : TypeId) (x y : Operand) (ho : op.op = .store ty x y)
    (g : Nat) (cells : Array Value) (hx : a.eval x = .pointer (some ⟨g, 0, none⟩)) (hy : a.eval y = .agg cells) (c : Array Value) (t : TypeId) (hg : w.heap[g]? = some (.cells c t (0, 0)))
    (hi : (P.info? ty).map (·.size) = some cells.size) (hs : c.size = cells.size) (h1 : cells.all (·.oneCell') = true)
    (h : wpList P ops Q rest (a.put op.dst undef) (w.setRow g cells)) : wpList P ops Q (op :: rest) a w := by
  refine wpList_plain hgd fun K hK => ?_
  unfold Oper.wp execOp
  simp only [ho, hx, hy, Instr.storeAt, Instr.sureAddr, Sem.run_bind, Sem.run_pure, Result.andThen_ok, run_storeVar_row w g t ty c cells hg hi hs h1]
  exact hK _ _ h
theorem wpList_loadW {ops : Array Oper} {rest : List Oper} {op : Oper} {a : Act} {Q : Exit → Act → World → Prop} (hgd : op.guard = none) (ty : TypeId) (x : Operand) (ho : op.op = .load ty x)
    (g : Nat) (hx : a.eval x = .pointer (some ⟨g, 0, none⟩)) (c : Array Value) (t : TypeId) (hg : w.heap[g]? = some (.cells c t (0, 0))) (d : TypeDesc)
    (hu : P.underlying ty = some d) (hd : d.isRow = true) (hi : (P.info? ty).map (·.size) = some c.size)
    (h : wpList P ops Q rest (a.put op.dst (.agg c)) w) : wpList P ops Q (op :: rest) a w := by
  have h' := wpList_load_mid (P := P) (ops := ops) (rest := rest) (Q := Q) hgd ty x ho g 0 hx c.toList d (fun j v hv => by rw [Nat.zero_add]; exact cell_of hg (by simpa using hv)) hu hd (by simpa using hi)
  simp only [Array.toArray_toList] at h'
  exact h' h
end
end Go.Proofs.YtmnmmabhmedioaaDoor
