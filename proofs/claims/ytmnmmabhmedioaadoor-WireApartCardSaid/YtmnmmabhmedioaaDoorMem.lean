/- Memory: what is read in a later world. -/
import Derived.Test.YtmnmmabhmedioaaDoorRows
import Derived.Shelf.Bytes.SlSmallAll
import Derived.WalkKit
import Derived.WalkLawsBesides
import Derived.WalkSpells
import Derived.Handy
import Derived.Deep.QuietTactic
import Derived.BigQuiet
import Derived.Lib.Hide
namespace Go.Proofs.YtmnmmabhmedioaaDoor
open Go.RowKit
set_option linter.unusedVariables false
set_option linter.unusedSimpArgs false

theorem cell_lt {w : World} {a : Addr} {v : Value} (h : w.cell? a = some v) : a.block < w.heap.size := by
  rcases Nat.lt_or_ge a.block w.heap.size with h' | h'
  · exact h'
  · simp [World.cell?, Array.getElem?_eq_none h'] at h
theorem heap_lt {w : World} {b : Nat} {o : Obj} (h : w.heap[b]? = some o) : b < w.heap.size := by
  rcases Nat.lt_or_ge b w.heap.size with h' | h'
  · exact h'
  · simp [Array.getElem?_eq_none h'] at h
theorem cell_on {w w' : World} {a : Addr} {v : Value} (hb : Below w.heap.size w w') (h : w.cell? a = some v) : w'.cell? a = some v := (hb.cell (cell_lt h)).trans h
theorem heap_on {w w' : World} {b : Nat} {o : Obj} (hb : Below w.heap.size w w') (h : w.heap[b]? = some o) : w'.heap[b]? = some o := (hb.block b (heap_lt h)).trans h
theorem free_on {w w' : World} {a : Addr} (hb : Below w.heap.size w w') (hl : a.block < w.heap.size) (h : w.frozen? a = false) : w'.frozen? a = false := (hb.frozen hl).trans h
theorem bytesIn_on {w w' : World} {p : Option Addr} {n : Nat} {xs : List Int} (hb : Below w.heap.size w w') (h : Lib.BytesIn w p n xs) : Lib.BytesIn w' p n xs := fun hn => by
  obtain ⟨b, o, rfl, hc⟩ := h hn
  exact ⟨b, o, rfl, fun i hi => cell_on hb (hc i hi)⟩
theorem later {w w' w'' : World} (h : Below w.heap.size w w') (k : Below w'.heap.size w' w'') : Below w.heap.size w w'' := h.trans (k.mono h.size)
theorem below_drewN {B : Nat} {a w : World} (h : Below B a w) (n : Nat) : Below B a (w.drewN n) := ⟨h.os, h.tape, h.output, h.size, h.block⟩
theorem cell_of {w : World} {b off : Nat} {cs : Array Value} {T : TypeId} {fz : Nat × Nat} {v : Value} (h : w.heap[b]? = some (.cells cs T fz)) (hv : cs[off]? = some v) : w.cell? ⟨b, off, none⟩ = some v := by
  simp [World.cell?, h, hv]
theorem free_of {w : World} {b off : Nat} {cs : Array Value} {T : TypeId} (h : w.heap[b]? = some (.cells cs T (0, 0))) : w.frozen? ⟨b, off, none⟩ = false := by
  simp [World.frozen?, h]

theorem news_one {W : World} {b : Nat} {v : Value} (h : W.cell? ⟨b, 0, none⟩ = some v) : ∀ j u, [v][j]? = some u → W.cell? ((⟨b, 0, none⟩ : Addr).add j) = some u := fun j u hu => by
  match j, hu with
  | 0, hu => simp at hu; subst hu; simpa [Addr.add] using h

theorem news_row {W : World} {b o : Nat} {k : IntKind} {xs : List Int} (h : ∀ i, i < xs.length → W.cell? ⟨b, o + i, none⟩ = some (.int k (xs.getD i 0))) : ∀ j u, (xs.map (Value.int k))[j]? = some u → W.cell? ((⟨b, o, none⟩ : Addr).add j) = some u := fun j u hu => by
  have hj : j < xs.length := by
    rcases Nat.lt_or_ge j xs.length with h' | h'
    · exact h'
    · rw [List.getElem?_eq_none (by simpa using h')] at hu; cases hu
  rw [Go.WideShapes.add_plain, h j hj]
  rw [List.getElem?_map, List.getElem?_eq_getElem hj] at hu
  simp only [Option.map_some, Option.some.injEq] at hu
  rw [← hu, List.getD_eq_getElem?_getD, List.getElem?_eq_getElem hj]; rfl
theorem one_ints {k : IntKind} {xs : List Int} : ∀ u ∈ xs.map (Value.int k), u.oneCell' = true := fun u hu => by
  obtain ⟨x, _, rfl⟩ := List.mem_map.1 hu; rfl
/-- The bytes of a row that is owned. -/
theorem owns_bytes {W : World} {base g n cap : Nat} {e : TypeId} {xs : List Int} (h : W.ownsRow base e 1 (.slice (some ⟨g, 0, none⟩) n cap) n (xs.map (Value.int .u8))) : Lib.BytesIn W (some ⟨g, 0, none⟩) n xs := fun _ => by
  have hn : xs.length = n := by simpa using h.1
  refine ⟨g, 0, rfl, fun i hi => ?_⟩
  have := h.cells (g := g) rfl i (.int .u8 (xs.getD i 0)) (by rw [List.getElem?_map, List.getD_eq_getElem?_getD, List.getElem?_eq_getElem (by omega)]; rfl)
  rw [Go.WideShapes.add_plain] at this
  exact this
theorem owns_ints {W : World} {base g n cap : Nat} {e : TypeId} {k : IntKind} {xs : List Int} (h : W.ownsRow base e 1 (.slice (some ⟨g, 0, none⟩) n cap) n (xs.map (Value.int k))) : ∀ i, i < n → W.cell? ⟨g, i, none⟩ = some (.int k (xs.getD i 0)) := fun i hi => by
  have hn : xs.length = n := by simpa using h.1
  have := h.cells (g := g) rfl i (.int k (xs.getD i 0)) (by rw [List.getElem?_map, List.getD_eq_getElem?_getD, List.getElem?_eq_getElem (by omega)]; rfl)
  rw [Go.WideShapes.add_plain, Nat.zero_add] at this
  exact this

theorem heap_set {w : World} {b o : Nat} {cs : Array Value} {T : TypeId} {fz : Nat × Nat} (h : w.heap[b]? = some (.cells cs T fz)) (v : Value) : (w.setCell ⟨b, o, none⟩ v).heap[b]? = some (.cells (cs.setIfInBounds o v) T fz) := by
  simp [World.setCell, Array.getElem?_modify, h]

theorem heap_alloc? (w : World) (o : Obj) (k : Nat) : (w.alloc o).heap[k]? = if k = w.heap.size then some o else w.heap[k]? := by
  by_cases h : k = w.heap.size
  · rw [if_pos h, h]; exact heap_alloc_new w o
  · rw [if_neg h]
    rcases Nat.lt_or_ge k w.heap.size with h' | h'
    · exact Below.heap_alloc w o k h'
    · rw [Array.getElem?_eq_none h', Array.getElem?_eq_none (by simp; omega)]

/-- 'w'' is 'w' with new blocks, but for what lies in the blocks D. -/
structure Keep (D : Nat → Prop) (w w' : World) : Prop where
  os : w'.os = w.os
  tape : w'.tape = w.tape
  output : w'.output = w.output
  size : w.heap.size ≤ w'.heap.size
  block : ∀ k, k < w.heap.size → ¬ D k → w'.heap[k]? = w.heap[k]?

theorem Keep.refl (D : Nat → Prop) (w : World) : Keep D w w := ⟨rfl, rfl, rfl, Nat.le_refl _, fun _ _ _ => rfl⟩
theorem Keep.trans {D : Nat → Prop} {a b c : World} (h : Keep D a b) (k : Keep D b c) : Keep D a c :=
  ⟨k.os.trans h.os, k.tape.trans h.tape, k.output.trans h.output, Nat.le_trans h.size k.size, fun i hi hd => (k.block i (Nat.lt_of_lt_of_le hi h.size) hd).trans (h.block i hi hd)⟩
theorem Keep.mono {D D' : Nat → Prop} {a b : World} (h : Keep D a b) (hd : ∀ k, k < a.heap.size → D k → D' k) : Keep D' a b := ⟨h.os, h.tape, h.output, h.size, fun k hk hn => h.block k hk fun h' => hn (hd k hk h')⟩
theorem Keep.of_below {D : Nat → Prop} {w w' : World} (h : Below w.heap.size w w') : Keep D w w' := ⟨h.os, h.tape, h.output, h.size, fun k hk _ => h.block k hk⟩
theorem Keep.below {B : Nat} {w w' : World} (h : Keep (fun k => B ≤ k) w w') (hB : B ≤ w.heap.size) : Below B w w' := ⟨h.os, h.tape, h.output, h.size, fun k hk => h.block k (by omega) (by omega)⟩
theorem Keep.below_of {w w' : World} (h : Keep (fun _ => False) w w') : Below w.heap.size w w' := ⟨h.os, h.tape, h.output, h.size, fun k hk => h.block k hk id⟩
theorem Keep.setCell {D : Nat → Prop} {w : World} {a : Addr} (h : D a.block) (v : Value) : Keep D w (w.setCell a v) :=
  ⟨rfl, rfl, rfl, by simp, fun k hk hn => Below.heap_setCell w a v k (fun e => hn (e ▸ h))⟩
theorem Keep.set {w : World} (D : Nat → Prop) (b o : Nat) (v : Value) (h : D b) : Keep D w (w.setCell ⟨b, o, none⟩ v) := Keep.setCell (D := D) (a := ⟨b, o, none⟩) h v
theorem Keep.alloc {D : Nat → Prop} {w : World} (o : Obj) : Keep D w (w.alloc o) := Keep.of_below ((Below.refl _ _).alloc (Nat.le_refl _) o)
theorem Keep.drew {D : Nat → Prop} {w : World} : Keep D w w.drew := Keep.of_below ((Below.refl _ _).drew)
theorem Keep.drewN {D : Nat → Prop} {w : World} (n : Nat) : Keep D w (w.drewN n) := Keep.of_below (below_drewN (Below.refl _ _) n)
theorem Keep.grown {D : Nat → Prop} {w w' : World} {row : Option Nat} (h : w.grownBy w' row) (hr : ∀ k, row = some k → D k) : Keep D w w' :=
  ⟨h.os, h.tape, h.output, h.size, fun k hk hn => h.block k hk (fun e => hn (hr k e.symm))⟩
theorem Keep.cell {D : Nat → Prop} {w w' : World} {a : Addr} {v : Value} (h : Keep D w w') (hn : ¬ D a.block) (hc : w.cell? a = some v) : w'.cell? a = some v :=
  (World.cell?_of_block (h.block a.block (cell_lt hc) hn)).trans hc
theorem Keep.free {D : Nat → Prop} {w w' : World} {a : Addr} (h : Keep D w w') (hn : ¬ D a.block) (hl : a.block < w.heap.size) (hf : w.frozen? a = false) : w'.frozen? a = false :=
  (World.frozen?_of_block (h.block a.block hl hn)).trans hf
theorem Keep.heap {D : Nat → Prop} {w w' : World} {b : Nat} {o : Obj} (h : Keep D w w') (hn : ¬ D b) (hb : w.heap[b]? = some o) : w'.heap[b]? = some o := (h.block b (heap_lt hb) hn).trans hb
theorem Keep.bytes {D : Nat → Prop} {w w' : World} {p : Option Addr} {n : Nat} {xs : List Int} (h : Keep D w w') (hn : ∀ a, p = some a → ¬ D a.block) (hb : Lib.BytesIn w p n xs) : Lib.BytesIn w' p n xs := fun h0 => by
  obtain ⟨b, o, rfl, hc⟩ := hb h0
  exact ⟨b, o, rfl, fun i hi => h.cell (hn ⟨b, o, none⟩ rfl) (hc i hi)⟩
theorem Keep.owns {D : Nat → Prop} {w w' : World} {base : Nat} {e : TypeId} {size : Nat} {v : Value} {n : Nat} {xs : List Value} (h : Keep D w w') (hn : ∀ k, v.ownBlock = some k → ¬ D k) (ho : w.ownsRow base e size v n xs) : w'.ownsRow base e size v n xs := by
  obtain ⟨hl, ho⟩ := ho
  refine ⟨hl, ?_⟩
  rcases ho with ho | ⟨g, cap, cur, hv, hb, hg, h1, h2, h3, h4⟩
  · exact .inl ho
  · exact .inr ⟨g, cap, cur, hv, hb, h.heap (hn g (by rw [hv]; rfl)) hg, h1, h2, h3, h4⟩
end Go.Proofs.YtmnmmabhmedioaaDoor
