/- Memory: what is read in a later world. -/
import Derived.Test.YtmnmmabhmedioaaDoorRows
import Derived.Test.YtmnmmabhmedioaaDoorShelf
import Derived.Shelf.Bytes.SlSmallAll
import Derived.WalkKit
import Derived.WalkLawsBesides
import Derived.WalkSpells
import Derived.Handy
import Derived.Deep.QuietTactic
import Derived.BigQuiet
import Derived.Lib.Hide
import Derived.Laws.BitsAllLaws
import Derived.Laws.DeepNot64
import Derived.Deep.AppendLies
import Derived.Deep.RegionLaw
import Derived.Laws.CopyOwn
import Derived.Laws.MakeOwn
import Derived.Deep.MidRow
import Derived.Deep.WholeRow
import Derived.Lib.AppendIntMem
import Derived.Laws.IdiomStrings
import Derived.Lib.ItoaNum
import Derived.Lib.ItoaMem
import Derived.LaidEql
import Derived.Stop.Asserts
import Derived.RowKitTokens
import Derived.Deep.RegionWith
import Derived.Recover
import Derived.StillTailTactics
import Derived.Deep.RegionHeld3
import Derived.Deep.DeepCutAuto
namespace Go.Proofs.YtmnmmabhmedioaaDoor
open Go.RowKit
set_option linter.unusedVariables false
set_option linter.unusedSimpArgs false

theorem cell_lt {w : World} {a : Addr} {v : Value} (h : w.cell? a = some v) : a.block < w.heap.size := by
  rcases Nat.lt_or_ge a.block w.heap.size with h' | h'
  · exact h'
  · simp [World.cell?, Array.getElem?_eq_none h'] at h
theorem heap_lt {w : World} {b : Nat} {o : Obj} (h : w.heap[b]? = some o) : b < w.heap.size := by
  rcases Nat.lt_or_ge b w.heap.size with h' | h'
  · exact h'
  · simp [Array.getElem?_eq_none h'] at h
theorem cell_on {w w' : World} {a : Addr} {v : Value} (hb : Below w.heap.size w w') (h : w.cell? a = some v) : w'.cell? a = some v := (hb.cell (cell_lt h)).trans h
theorem heap_on {w w' : World} {b : Nat} {o : Obj} (hb : Below w.heap.size w w') (h : w.heap[b]? = some o) : w'.heap[b]? = some o := (hb.block b (heap_lt h)).trans h
theorem free_on {w w' : World} {a : Addr} (hb : Below w.heap.size w w') (hl : a.block < w.heap.size) (h : w.frozen? a = false) : w'.frozen? a = false := (hb.frozen hl).trans h
theorem bytesIn_on {w w' : World} {p : Option Addr} {n : Nat} {xs : List Int} (hb : Below w.heap.size w w') (h : Lib.BytesIn w p n xs) : Lib.BytesIn w' p n xs := fun hn => by
  obtain ⟨b, o, rfl, hc⟩ := h hn
  exact ⟨b, o, rfl, fun i hi => cell_on hb (hc i hi)⟩
theorem later {w w' w'' : World} (h : Below w.heap.size w w') (k : Below w'.heap.size w' w'') : Below w.heap.size w w'' := h.trans (k.mono h.size)
theorem below_drewN {B : Nat} {a w : World} (h : Below B a w) (n : Nat) : Below B a (w.drewN n) := ⟨h.os, h.tape, h.output, h.size, h.block⟩
theorem cell_of {w : World} {b off : Nat} {cs : Array Value} {T : TypeId} {fz : Nat × Nat} {v : Value} (h : w.heap[b]? = some (.cells cs T fz)) (hv : cs[off]? = some v) : w.cell? ⟨b, off, none⟩ = some v := by
  simp [World.cell?, h, hv]
theorem free_of {w : World} {b off : Nat} {cs : Array Value} {T : TypeId} (h : w.heap[b]? = some (.cells cs T (0, 0))) : w.frozen? ⟨b, off, none⟩ = false := by
  simp [World.frozen?, h]

theorem news_one {W : World} {b : Nat} {v : Value} (h : W.cell? ⟨b, 0, none⟩ = some v) : ∀ j u, [v][j]? = some u → W.cell? ((⟨b, 0, none⟩ : Addr).add j) = some u := fun j u hu => by
  match j, hu with
  | 0, hu => simp at hu; subst hu; simpa [Addr.add] using h

theorem news_row {W : World} {b o : Nat} {k : IntKind} {xs : List Int} (h : ∀ i, i < xs.length → W.cell? ⟨b, o + i, none⟩ = some (.int k (xs.getD i 0))) : ∀ j u, (xs.map (Value.int k))[j]? = some u → W.cell? ((⟨b, o, none⟩ : Addr).add j) = some u := fun j u hu => by
  have hj : j < xs.length := by
    rcases Nat.lt_or_ge j xs.length with h' | h'
    · exact h'
    · rw [List.getElem?_eq_none (by simpa using h')] at hu; cases hu
  rw [Go.WideShapes.add_plain, h j hj]
  rw [List.getElem?_map, List.getElem?_eq_getElem hj] at hu
  simp only [Option.map_some, Option.some.injEq] at hu
  rw [← hu, List.getD_eq_getElem?_getD, List.getElem?_eq_getElem hj]; rfl
theorem one_ints {k : IntKind} {xs : List Int} : ∀ u ∈ xs.map (Value.int k), u.oneCell' = true := fun u hu => by
  obtain ⟨x, _, rfl⟩ := List.mem_map.1 hu; rfl
/-- The bytes of a row that is owned. -/
theorem owns_bytes {W : World} {base g n cap : Nat} {e : TypeId} {xs : List Int} (h : W.ownsRow base e 1 (.slice (some ⟨g, 0, none⟩) n cap) n (xs.map (Value.int .u8))) : Lib.BytesIn W (some ⟨g, 0, none⟩) n xs := fun _ => by
  have hn : xs.length = n := by simpa using h.1
  refine ⟨g, 0, rfl, fun i hi => ?_⟩
  have := h.cells (g := g) rfl i (.int .u8 (xs.getD i 0)) (by rw [List.getElem?_map, List.getD_eq_getElem?_getD, List.getElem?_eq_getElem (by omega)]; rfl)
  rw [Go.WideShapes.add_plain] at this
  exact this
theorem owns_ints {W : World} {base g n cap : Nat} {e : TypeId} {k : IntKind} {xs : List Int} (h : W.ownsRow base e 1 (.slice (some ⟨g, 0, none⟩) n cap) n (xs.map (Value.int k))) : ∀ i, i < n → W.cell? ⟨g, i, none⟩ = some (.int k (xs.getD i 0)) := fun i hi => by
  have hn : xs.length = n := by simpa using h.1
  have := h.cells (g := g) rfl i (.int k (xs.getD i 0)) (by rw [List.getElem?_map, List.getD_eq_getElem?_getD, List.getElem?_eq_getElem (by omega)]; rfl)
  rw [Go.WideShapes.add_plain, Nat.zero_add] at this
  exact this

theorem heap_set {w : World} {b o : Nat} {cs : Array Value} {T : TypeId} {fz : Nat × Nat} (h : w.heap[b]? = some (.cells cs T fz)) (v : Value) : (w.setCell ⟨b, o, none⟩ v).heap[b]? = some (.cells (cs.setIfInBounds o v) T fz) := by
  simp [World.setCell, Array.getElem?_modify, h]

theorem heap_alloc? (w : World) (o : Obj) (k : Nat) : (w.alloc o).heap[k]? = if k = w.heap.size then some o else w.heap[k]? := by
  by_cases h : k = w.heap.size
  · rw [if_pos h, h]; exact heap_alloc_new w o
  · rw [if_neg h]
    rcases Nat.lt_or_ge k w.heap.size with h' | h'
    · exact Below.heap_alloc w o k h'
    · rw [Array.getElem?_eq_none h', Array.getElem?_eq_none (by simp; omega)]

/-- 'w'' is 'w' with new blocks, but for what lies in the blocks D. -/
structure Keep (D : Nat → Prop) (w w' : World) : Prop where
  os : w'.os = w.os
  tape : w'.tape = w.tape
  output : w'.output = w.output
  size : w.heap.size ≤ w'.heap.size
  block : ∀ k, k < w.heap.size → ¬ D k → w'.heap[k]? = w.heap[k]?

theorem Keep.refl (D : Nat → Prop) (w : World) : Keep D w w := ⟨rfl, rfl, rfl, Nat.le_refl _, fun _ _ _ => rfl⟩
theorem Keep.trans {D : Nat → Prop} {a b c : World} (h : Keep D a b) (k : Keep D b c) : Keep D a c :=
  ⟨k.os.trans h.os, k.tape.trans h.tape, k.output.trans h.output, Nat.le_trans h.size k.size, fun i hi hd => (k.block i (Nat.lt_of_lt_of_le hi h.size) hd).trans (h.block i hi hd)⟩
theorem Keep.mono {D D' : Nat → Prop} {a b : World} (h : Keep D a b) (hd : ∀ k, k < a.heap.size → D k → D' k) : Keep D' a b := ⟨h.os, h.tape, h.output, h.size, fun k hk hn => h.block k hk fun h' => hn (hd k hk h')⟩
theorem Keep.of_below {D : Nat → Prop} {w w' : World} (h : Below w.heap.size w w') : Keep D w w' := ⟨h.os, h.tape, h.output, h.size, fun k hk _ => h.block k hk⟩
theorem Keep.below {B : Nat} {w w' : World} (h : Keep (fun k => B ≤ k) w w') (hB : B ≤ w.heap.size) : Below B w w' := ⟨h.os, h.tape, h.output, h.size, fun k hk => h.block k (by omega) (by omega)⟩
theorem Keep.below_of {w w' : World} (h : Keep (fun _ => False) w w') : Below w.heap.size w w' := ⟨h.os, h.tape, h.output, h.size, fun k hk => h.block k hk id⟩
theorem Keep.setCell {D : Nat → Prop} {w : World} {a : Addr} (h : D a.block) (v : Value) : Keep D w (w.setCell a v) :=
  ⟨rfl, rfl, rfl, by simp, fun k hk hn => Below.heap_setCell w a v k (fun e => hn (e ▸ h))⟩
theorem Keep.set {w : World} (D : Nat → Prop) (b o : Nat) (v : Value) (h : D b) : Keep D w (w.setCell ⟨b, o, none⟩ v) := Keep.setCell (D := D) (a := ⟨b, o, none⟩) h v
theorem Keep.alloc {D : Nat → Prop} {w : World} (o : Obj) : Keep D w (w.alloc o) := Keep.of_below ((Below.refl _ _).alloc (Nat.le_refl _) o)
theorem Keep.drew {D : Nat → Prop} {w : World} : Keep D w w.drew := Keep.of_below ((Below.refl _ _).drew)
theorem Keep.drewN {D : Nat → Prop} {w : World} (n : Nat) : Keep D w (w.drewN n) := Keep.of_below (below_drewN (Below.refl _ _) n)
theorem Keep.grown {D : Nat → Prop} {w w' : World} {row : Option Nat} (h : w.grownBy w' row) (hr : ∀ k, row = some k → D k) : Keep D w w' :=
  ⟨h.os, h.tape, h.output, h.size, fun k hk hn => h.block k hk (fun e => hn (hr k e.symm))⟩
theorem Keep.cell {D : Nat → Prop} {w w' : World} {a : Addr} {v : Value} (h : Keep D w w') (hn : ¬ D a.block) (hc : w.cell? a = some v) : w'.cell? a = some v :=
  (World.cell?_of_block (h.block a.block (cell_lt hc) hn)).trans hc
theorem Keep.free {D : Nat → Prop} {w w' : World} {a : Addr} (h : Keep D w w') (hn : ¬ D a.block) (hl : a.block < w.heap.size) (hf : w.frozen? a = false) : w'.frozen? a = false :=
  (World.frozen?_of_block (h.block a.block hl hn)).trans hf
theorem Keep.heap {D : Nat → Prop} {w w' : World} {b : Nat} {o : Obj} (h : Keep D w w') (hn : ¬ D b) (hb : w.heap[b]? = some o) : w'.heap[b]? = some o := (h.block b (heap_lt hb) hn).trans hb
theorem Keep.bytes {D : Nat → Prop} {w w' : World} {p : Option Addr} {n : Nat} {xs : List Int} (h : Keep D w w') (hn : ∀ a, p = some a → ¬ D a.block) (hb : Lib.BytesIn w p n xs) : Lib.BytesIn w' p n xs := fun h0 => by
  obtain ⟨b, o, rfl, hc⟩ := hb h0
  exact ⟨b, o, rfl, fun i hi => h.cell (hn ⟨b, o, none⟩ rfl) (hc i hi)⟩
theorem Keep.owns {D : Nat → Prop} {w w' : World} {base : Nat} {e : TypeId} {size : Nat} {v : Value} {n : Nat} {xs : List Value} (h : Keep D w w') (hn : ∀ k, v.ownBlock = some k → ¬ D k) (ho : w.ownsRow base e size v n xs) : w'.ownsRow base e size v n xs := by
  obtain ⟨hl, ho⟩ := ho
  refine ⟨hl, ?_⟩
  rcases ho with ho | ⟨g, cap, cur, hv, hb, hg, h1, h2, h3, h4⟩
  · exact .inl ho
  · exact .inr ⟨g, cap, cur, hv, hb, h.heap (hn g (by rw [hv]; rfl)) hg, h1, h2, h3, h4⟩
end Go.Proofs.YtmnmmabhmedioaaDoor
/- Words of 64 bits as UInt64: what the walk writes for their operations. -/
namespace Go.Proofs.YtmnmmabhmedioaaDoor
open Go.RowKit
set_option linter.unusedVariables false
set_option linter.unusedSimpArgs false

/-- A word's number; a byte's. (Plain definitions: the walk's simp does not open them.) -/
def nv (x : UInt64) : Int := (x.toNat : Int)
def nb (x : UInt8) : Int := (x.toNat : Int)
/-- A word, a byte as a value. -/
abbrev U (x : UInt64) : Value := .int .u64 (nv x)
abbrev B8 (x : UInt8) : Value := .int .u8 (nb x)

theorem nv_bd (x : UInt64) : 0 ≤ nv x ∧ nv x < 18446744073709551616 := by have := x.toNat_lt; unfold nv; omega
theorem nb_bd (x : UInt8) : 0 ≤ nb x ∧ nb x < 256 := by have := x.toNat_lt; unfold nb; omega
theorem nv_inj {x y : UInt64} (h : nv x = nv y) : x = y := by unfold nv at h; exact UInt64.toNat_inj.1 (by omega)
theorem nb_inj {x y : UInt8} (h : nb x = nb y) : x = y := by unfold nb at h; exact UInt8.toNat_inj.1 (by omega)
theorem u64_lt (x : UInt64) : x.toNat < 18446744073709551616 := x.toNat_lt
theorem u64_add (x y : UInt64) : IntKind.u64.wrap (nv x + nv y) = nv (x + y) := by
  unfold nv; rw [IntKind.wrap_u64, UInt64.toNat_add]; omega
theorem u64_sub (x y : UInt64) : IntKind.u64.wrap (nv x - nv y) = nv (x - y) := by
  have := u64_lt x; have := u64_lt y
  unfold nv; rw [IntKind.wrap_u64, UInt64.toNat_sub]; omega
theorem u64_mul (x y : UInt64) : IntKind.u64.wrap (nv x * nv y) = nv (x * y) := by
  unfold nv; rw [IntKind.wrap_u64, UInt64.toNat_mul, ← Int.natCast_mul]; omega
theorem u64_xor (x y : UInt64) : bits .xor .u64 (nv x) (nv y) = nv (x ^^^ y) := by
  unfold nv; rw [bits_xor_u64_nat _ _ (u64_lt x) (u64_lt y), UInt64.toNat_xor]
theorem u64_and (x y : UInt64) : bits .and .u64 (nv x) (nv y) = nv (x &&& y) := by
  unfold nv; rw [bits_and_u64_nat _ _ (u64_lt x) (u64_lt y), UInt64.toNat_and]
theorem u64_or (x y : UInt64) : bits .or .u64 (nv x) (nv y) = nv (x ||| y) := by
  unfold nv; rw [bits_or_u64_nat _ _ (u64_lt x) (u64_lt y), UInt64.toNat_or]
theorem u64_not (x : UInt64) : bits .xor .u64 IntKind.u64.max (nv x) = nv (~~~ x) := by
  have e : IntKind.u64.max = nv (~~~ (0 : UInt64)) := by rfl
  rw [e, u64_xor]
  rw [show ~~~ (0 : UInt64) ^^^ x = ~~~ x from UInt64.toBitVec_inj.1 (by simp)]
theorem u64_shl (x : UInt64) (n m : Nat) (hn : n < 64) (hm : m = 2 ^ n) : IntKind.u64.wrap (nv x * (m : Int)) = nv (x <<< (UInt64.ofNat n)) := by
  subst hm
  unfold nv
  rw [IntKind.wrap_u64, UInt64.toNat_shiftLeft, UInt64.toNat_ofNat', ← Int.natCast_mul]
  rw [show n % 2 ^ 64 % 64 = n from by omega, Nat.shiftLeft_eq]
  omega
theorem u64_shr (x : UInt64) (n m : Nat) (hn : n < 64) (hm : m = 2 ^ n) : nv x / (m : Int) = nv (x >>> (UInt64.ofNat n)) := by
  subst hm
  unfold nv
  rw [UInt64.toNat_shiftRight, UInt64.toNat_ofNat', show n % 2 ^ 64 % 64 = n from by omega, Nat.shiftRight_eq_div_pow]
  omega
theorem u64_of8 (b : UInt8) : IntKind.u64.wrap (nb b) = nv b.toUInt64 := by
  have := b.toNat_lt
  unfold nv nb; rw [IntKind.wrap_u64, UInt8.toNat_toUInt64]; omega
theorem u8_of64 (x : UInt64) : IntKind.u8.wrap (nv x) = nb x.toUInt8 := by
  unfold nv nb; rw [IntKind.wrap_u8, UInt64.toNat_toUInt8]; omega
end Go.Proofs.YtmnmmabhmedioaaDoor
/- Bytes behind a slice's head; rows of bytes that are owned; append of bytes. -/
namespace Go.Proofs.YtmnmmabhmedioaaDoor
open Go.RowKit
set_option linter.unusedVariables false
set_option linter.unusedSimpArgs false

theorem inf5 : (Tryd.prog.info? 5).map (fun i => (i.zero, i.size, i.bytes)) = some (some (.int .u8 0), 1, 1) := by kernel_rfl

theorem boxed (w : World) (o : Obj) : Below w.heap.size w (w.alloc o) := (Below.refl _ _).alloc (Nat.le_refl _) o

/-- Bytes behind a slice's head. -/
def Bs (w : World) (A : Option Addr) (l : List UInt8) : Prop := 0 < l.length → ∃ b o, A = some ⟨b, o, none⟩ ∧ ∀ i, i < l.length → w.cell? ⟨b, o + i, none⟩ = some (B8 (l.getD i 0))
theorem Bs.on {w w' : World} {A : Option Addr} {l : List UInt8} (hb : Below w.heap.size w w') (h : Bs w A l) : Bs w' A l := fun h0 => by
  obtain ⟨b, o, rfl, hc⟩ := h h0
  exact ⟨b, o, rfl, fun i hi => cell_on hb (hc i hi)⟩
theorem Bs.keep {D : Nat → Prop} {w w' : World} {A : Option Addr} {l : List UInt8} (h : Keep D w w') (hn : ∀ a, A = some a → ¬ D a.block) (hb : Bs w A l) : Bs w' A l := fun h0 => by
  obtain ⟨b, o, rfl, hc⟩ := hb h0
  exact ⟨b, o, rfl, fun i hi => h.cell (hn ⟨b, o, none⟩ rfl) (hc i hi)⟩
theorem Bs.below {B : Nat} {w w' : World} {A : Option Addr} {l : List UInt8} (h : Below B w w') (hn : ∀ a, A = some a → a.block < B) (hb : Bs w A l) : Bs w' A l := fun h0 => by
  obtain ⟨b, o, rfl, hc⟩ := hb h0
  exact ⟨b, o, rfl, fun i hi => (h.cell (p := ⟨b, o + i, none⟩) (hn ⟨b, o, none⟩ rfl)).trans (hc i hi)⟩
theorem Bs.nil (w : World) (A : Option Addr) : Bs w A [] := fun h => absurd h (by simp)
theorem Bs.drewN {w : World} {A : Option Addr} {l : List UInt8} (h : Bs w A l) (n : Nat) : Bs (w.drewN n) A l := h
theorem getD_drop (l : List UInt8) (k i : Nat) : (l.drop k).getD i 0 = l.getD (k + i) 0 := by simp [List.getD_eq_getElem?_getD]
theorem getD_take (l : List UInt8) {k i : Nat} (h : i < k) : (l.take k).getD i 0 = l.getD i 0 := by simp [List.getD_eq_getElem?_getD, List.getElem?_take, h]
theorem Bs.drop {w : World} {b o : Nat} {l : List UInt8} (h : Bs w (some ⟨b, o, none⟩) l) (k : Nat) : Bs w (some ⟨b, o + k, none⟩) (l.drop k) := fun h0 => by
  simp only [List.length_drop] at h0
  obtain ⟨b', o', e, hc⟩ := h (by omega)
  cases e
  refine ⟨b, o + k, rfl, fun i hi => ?_⟩
  simp only [List.length_drop] at hi
  rw [getD_drop, Nat.add_assoc]
  exact hc (k + i) (by omega)
theorem Bs.take {w : World} {A : Option Addr} {l : List UInt8} (h : Bs w A l) (k : Nat) : Bs w A (l.take k) := fun h0 => by
  simp only [List.length_take] at h0
  obtain ⟨b, o, rfl, hc⟩ := h (by omega)
  refine ⟨b, o, rfl, fun i hi => ?_⟩
  simp only [List.length_take] at hi
  rw [getD_take _ (by omega)]
  exact hc i (by omega)
theorem Bs.at {w : World} {b o : Nat} {l : List UInt8} (h : Bs w (some ⟨b, o, none⟩) l) (i : Nat) (hi : i < l.length) : w.cell? ⟨b, o + i, none⟩ = some (B8 (l.getD i 0)) := by
  obtain ⟨b', o', e, hc⟩ := h (by omega)
  cases e
  exact hc i hi

/-- A row of bytes that is owned. -/
abbrev OwnB (w : World) (base : Nat) (A : Option Addr) (c : Nat) (l : List UInt8) : Prop := w.ownsRow base 5 1 (.slice A l.length c) l.length (l.map B8)
theorem OwnB.bs {w : World} {base : Nat} {A : Option Addr} {c : Nat} {l : List UInt8} (h : OwnB w base A c l) : Bs w A l := fun h0 => by
  rcases h.2 with ⟨_, h1⟩ | ⟨g, cap, cur, hv, _⟩
  · omega
  · cases hv
    refine ⟨g, 0, rfl, fun i hi => ?_⟩
    have := h.cells (g := g) rfl i (B8 (l.getD i 0)) (by rw [List.getElem?_map, List.getD_eq_getElem?_getD, List.getElem?_eq_getElem hi]; rfl)
    rw [Go.WideShapes.add_plain] at this
    exact this
theorem OwnB.nil (w : World) (base : Nat) : OwnB w base none 0 [] := World.ownsRow_nil _ _ _ _
theorem OwnB.form {w : World} {base : Nat} {A : Option Addr} {c : Nat} {l : List UInt8} (h : OwnB w base A c l) : (A = none ∧ c = 0 ∧ l = []) ∨ ∃ g cur, A = some ⟨g, 0, none⟩ ∧ base ≤ g ∧ w.heap[g]? = some (.cells cur 5 (0, 0)) ∧ l.length ≤ c := by
  rcases h.2 with ⟨hv, h1⟩ | ⟨g, cap, cur, hv, hb, hg, h1, _⟩
  · obtain ⟨rfl, -, rfl⟩ := Value.slice.inj hv; exact .inl ⟨rfl, rfl, List.eq_nil_of_length_eq_zero h1⟩
  · cases hv; exact .inr ⟨g, cur, rfl, hb, hg, h1⟩
theorem OwnB.ge {w : World} {base : Nat} {A : Option Addr} {c : Nat} {l : List UInt8} (h : OwnB w base A c l) : ∀ a, A = some a → base ≤ a.block ∧ a.block < w.heap.size := fun a ha => by
  rcases h.form with ⟨h0, _⟩ | ⟨g, cur, h1, hb, hg, _⟩
  · rw [h0] at ha; cases ha
  · rw [h1] at ha; cases ha; exact ⟨hb, heap_lt hg⟩
/-- In a block of another type there is no such row. -/
theorem OwnB.ne {w : World} {base : Nat} {A : Option Addr} {c : Nat} {l : List UInt8} (h : OwnB w base A c l) {b : Nat} {cs : Array Value} {T : TypeId} {fz : Nat × Nat} (hb : w.heap[b]? = some (.cells cs T fz)) (hT : T ≠ 5) : ∀ a, A = some a → a.block ≠ b := fun a ha e => by
  rcases h.form with ⟨h0, _⟩ | ⟨g, cur, h1, _, hg, _⟩
  · rw [h0] at ha; cases ha
  · rw [h1] at ha; cases ha
    have e : g = b := e
    subst e
    rw [hg] at hb
    cases hb
    exact hT rfl
theorem OwnB.keep {D : Nat → Prop} {w w' : World} {base : Nat} {A : Option Addr} {c : Nat} {l : List UInt8} (k : Keep D w w') (hn : ∀ a, A = some a → ¬ D a.block) (h : OwnB w base A c l) : OwnB w' base A c l :=
  k.owns (fun g hg => by cases A with
    | none => cases hg
    | some a => cases hg; exact hn a rfl) h
theorem OwnB.on {w w' : World} {base : Nat} {A : Option Addr} {c : Nat} {l : List UInt8} (hb : Below w.heap.size w w') (h : OwnB w base A c l) : OwnB w' base A c l := h.keep (Keep.of_below (D := fun _ => False) hb) (fun _ _ => id)
theorem OwnB.none_of {w : World} {base : Nat} {A : Option Addr} {c : Nat} {l : List UInt8} (h : OwnB w base A c l) : OwnB w base A c [] := by
  rcases h.2 with ⟨hv, h1⟩ | ⟨g, cap, cur, hv, hb, hg, h1, h2, h3, h4⟩
  · obtain ⟨rfl, -, rfl⟩ := Value.slice.inj hv
    exact World.ownsRow_nil _ _ _ _
  · cases hv
    exact ⟨rfl, .inr ⟨g, c, cur, rfl, hb, hg, Nat.zero_le _, h2, h3, rfl⟩⟩
theorem one_bytes {l : List UInt8} : ∀ u ∈ l.map B8, u.oneCell' = true := fun u hu => by
  obtain ⟨x, _, rfl⟩ := List.mem_map.1 hu; rfl
theorem news_bs {W : World} {b o : Nat} {l : List UInt8} (h : ∀ i, i < l.length → W.cell? ⟨b, o + i, none⟩ = some (B8 (l.getD i 0))) : ∀ j u, (l.map B8)[j]? = some u → W.cell? ((⟨b, o, none⟩ : Addr).add j) = some u := fun j u hu => by
  have hj : j < l.length := by
    rcases Nat.lt_or_ge j l.length with h' | h'
    · exact h'
    · rw [List.getElem?_eq_none (by simpa using h')] at hu; cases hu
  rw [Go.WideShapes.add_plain, h j hj]
  rw [List.getElem?_map, List.getElem?_eq_getElem hj] at hu
  simp only [Option.map_some, Option.some.injEq] at hu
  rw [← hu, List.getD_eq_getElem?_getD, List.getElem?_eq_getElem hj]; rfl

theorem Bs.one (w : World) (x : UInt8) (T : TypeId) : Bs (w.alloc (.cells #[.int .u8 (nb x)] T)) (some ⟨w.heap.size, 0, none⟩) [x] := fun _ => ⟨_, _, rfl, fun i hi => by
  obtain rfl : i = 0 := by simpa using hi
  exact cell_of (heap_alloc_new w _) rfl⟩
theorem Bs.arr {w : World} {b o : Nat} {l : List UInt8} (h : ∀ i, i < l.length → w.cell? ⟨b, o + i, none⟩ = some (B8 (l.getD i 0))) : Bs w (some ⟨b, o, none⟩) l := fun _ => ⟨_, _, rfl, h⟩
theorem below_grew {B base : Nat} {a w w' : World} {A : Option Addr} {c n : Nat} {l : List UInt8} (h : Below B a w) (hO : OwnB w base A c l) (hb : B ≤ base) (hs : B ≤ w.heap.size) (hg : w.grownBy w' (Value.slice A n c).ownBlock) : Below B a w' :=
  h.grown hg hs (fun k hk => by
    cases A with
    | none => cases hk
    | some x => cases hk; exact Nat.le_trans hb (hO.ge x rfl).1)
theorem keep_grew {D : Nat → Prop} {w w' : World} {A : Option Addr} {c n : Nat} (hg : w.grownBy w' (Value.slice A n c).ownBlock) (hn : ∀ a, A = some a → D a.block) : Keep D w w' :=
  Keep.grown hg (fun k hk => by
    cases A with
    | none => cases hk
    | some x => cases hk; exact hn x rfl)

theorem below_keep {B : Nat} {a w w' : World} {D : Nat → Prop} (h : Below B a w) (k : Keep D w w') (hD : ∀ i, D i → B ≤ i) (hs : B ≤ w.heap.size) : Below B a w' :=
  ⟨k.os.trans h.os, k.tape.trans h.tape, k.output.trans h.output, Nat.le_trans h.size k.size, fun i hi => (k.block i (Nat.lt_of_lt_of_le hi hs) (fun hd => by have := hD i hd; omega)).trans (h.block i hi)⟩

section
variable {P : Program} (w : World)

/-- append(v, bytes...): whatever lies behind the heads, nothing among it. -/
theorem run_append_bs (t ty : TypeId) (base : Nat) (i : TypeInfo) (ht : P.underlying t = some (.slice 5)) (hi : P.info? 5 = some i) (hz : i.zero = some (.int .u8 0))
    (hs : i.size = 1) (hby : i.bytes = 1) (A : Option Addr) (c : Nat) (xs : List UInt8) (hown : OwnB w base A c xs)
    (X : Option Addr) (d : Nat) (l : List UInt8) (hX : Bs w X l) (hm : xs.length + l.length ≤ 140737488355328) (hbase : base ≤ w.heap.size) :
    ∃ A' c' w', (Builtin.append_ #[t, t] ty #[.slice A xs.length c, .slice X l.length d]).run P w = .ok (.slice A' (xs.length + l.length) c') w' ∧
      OwnB w' base A' c' (xs ++ l) ∧ w.grownBy w' (Value.slice A xs.length c).ownBlock ∧ ((Value.slice A' (xs.length + l.length) c').ownBlock = (Value.slice A xs.length c).ownBlock ∨ (Value.slice A' (xs.length + l.length) c').ownBlock = some w.heap.size) := by
  have fin : ∀ {v' : Value} {w' : World} {n : Nat} {ys : List Value}, w'.ownsRow base 5 1 v' n ys → ∃ A' c', v' = .slice A' n c' := fun h => by
    rcases h.2 with ⟨hv, h1⟩ | ⟨g, cap, cur, hv, _⟩
    · exact ⟨_, _, by rw [hv, h1]⟩
    · exact ⟨_, _, hv⟩
  have len : ∀ {w' : World} {A' : Option Addr} {c' : Nat}, w'.ownsRow base 5 1 (.slice A' (xs.length + l.length) c') (xs.length + l.length) (xs.map B8 ++ l.map B8) → OwnB w' base A' c' (xs ++ l) := fun h => by
    unfold OwnB
    rw [List.length_append, List.map_append]
    exact h
  have go : ∀ a : Addr, X = some a → (∀ j u, (l.map B8)[j]? = some u → w.cell? (a.add j) = some u) → ∃ A' c' w', (Builtin.append_ #[t, t] ty #[.slice A xs.length c, .slice X l.length d]).run P w = .ok (.slice A' (xs.length + l.length) c') w' ∧
      OwnB w' base A' c' (xs ++ l) ∧ w.grownBy w' (Value.slice A xs.length c).ownBlock ∧ ((Value.slice A' (xs.length + l.length) c').ownBlock = (Value.slice A xs.length c).ownBlock ∨ (Value.slice A' (xs.length + l.length) c').ownBlock = some w.heap.size) := fun a ha hc => by
    obtain ⟨v', w', hr, h2, h3, _, h5⟩ := run_append_own_at (P := P) w base t ty 5 i (.int .u8 0) 1 1 ht hi hz hs hby rfl (by decide) (.slice A xs.length c) xs.length (xs.map B8) hown a l.length d (l.map B8) (by simp) hc one_bytes (by unfold maxLen; omega) (by omega) hbase
    obtain ⟨A', c', rfl⟩ := fin h2
    exact ⟨A', c', w', by rw [ha]; exact hr, len h2, h3, h5⟩
  rcases Nat.eq_zero_or_pos l.length with h0 | h0
  · obtain rfl : l = [] := List.eq_nil_of_length_eq_zero h0
    cases X with
    | some a => exact go a rfl (fun j u h => by simp at h)
    | none =>
      rcases hown.2 with ⟨hv, h1⟩ | ⟨g, cap, cur, hv, hb, hg, h1, _⟩
      · obtain ⟨rfl, -, rfl⟩ := Value.slice.inj hv
        obtain rfl : xs = [] := List.eq_nil_of_length_eq_zero h1
        refine ⟨none, 0, w, ?_, World.ownsRow_nil _ _ _ _, ⟨rfl, rfl, rfl, Nat.le_refl _, fun _ _ _ => rfl⟩, .inl rfl⟩
        simp [Builtin.append_, run_underlying ht, sizeOf, typeInfo, hi, Builtin.lenOf, Builtin.firstCells]
      · cases hv
        refine ⟨some ⟨g, 0, none⟩, c, w, ?_, len (by simpa using hown), ⟨rfl, rfl, rfl, Nat.le_refl _, fun _ _ _ => rfl⟩, .inl rfl⟩
        simp [Builtin.append_, run_underlying ht, sizeOf, typeInfo, hi, Builtin.lenOf, Builtin.firstCells, h1, storeCells]
  · obtain ⟨b, o, rfl, hc⟩ := hX h0
    exact go _ rfl (news_bs hc)

theorem wp_append_bs {o : Oper} {a : Act} {K : Act → World → Prop} {Q : Exit → Act → World → Prop} (s x : Operand) (t : TypeId)
    (ho : o.op = .call { callee := .builtin .append, args := #[s, x], argTypes := #[t, t] })
    (base : Nat) (i : TypeInfo) (ht : P.underlying t = some (.slice 5)) (hi : P.info? 5 = some i) (hz : i.zero = some (.int .u8 0))
    (hsz : i.size = 1) (hby : i.bytes = 1) (A : Option Addr) (n c : Nat) (xs : List UInt8) (hn : xs.length = n) (hs : a.eval s = .slice A n c) (hown : OwnB w base A c xs)
    (X : Option Addr) (m d : Nat) (l : List UInt8) (hl : l.length = m) (hx : a.eval x = .slice X m d) (hX : Bs w X l) (hm : xs.length + l.length ≤ 140737488355328) (hbase : base ≤ w.heap.size)
    (h : ∀ A' c' w', OwnB w' base A' c' (xs ++ l) → w.grownBy w' (Value.slice A n c).ownBlock → ((Value.slice A' (n + m) c').ownBlock = (Value.slice A n c).ownBlock ∨ (Value.slice A' (n + m) c').ownBlock = some w.heap.size) → K (a.put o.dst (.slice A' (n + m) c')) w') : o.wp P a w K Q := by
  subst hn
  subst hl
  obtain ⟨A', c', w', hr, h2, h3, h4⟩ := run_append_bs (P := P) w t o.type base i ht hi hz hsz hby A c xs hown X d l hX hm hbase
  unfold Oper.wp execOp
  simp only [ho, resolve, invoke, builtin, Sem.run_bind, Sem.run_pure, Result.andThen_ok, List.map_toArray, List.map_cons, List.map_nil, hs, hx, hr]
  exact h A' c' w' h2 h3 h4
theorem wpList_append_bs {ops : Array Oper} {rest : List Oper} {o : Oper} {a : Act} {Q : Exit → Act → World → Prop} (hgd : o.guard = none) (s x : Operand) (t : TypeId)
    (ho : o.op = .call { callee := .builtin .append, args := #[s, x], argTypes := #[t, t] })
    (base : Nat) (i : TypeInfo) (ht : P.underlying t = some (.slice 5)) (hi : P.info? 5 = some i) (hz : i.zero = some (.int .u8 0))
    (hsz : i.size = 1) (hby : i.bytes = 1) (A : Option Addr) (n c : Nat) (xs : List UInt8) (hn : xs.length = n) (hs : a.eval s = .slice A n c) (hown : OwnB w base A c xs)
    (X : Option Addr) (m d : Nat) (l : List UInt8) (hl : l.length = m) (hx : a.eval x = .slice X m d) (hX : Bs w X l) (hm : xs.length + l.length ≤ 140737488355328) (hbase : base ≤ w.heap.size)
    (h : ∀ A' c' w', OwnB w' base A' c' (xs ++ l) → w.grownBy w' (Value.slice A n c).ownBlock → ((Value.slice A' (n + m) c').ownBlock = (Value.slice A n c).ownBlock ∨ (Value.slice A' (n + m) c').ownBlock = some w.heap.size) → wpList P ops Q rest (a.put o.dst (.slice A' (n + m) c')) w') : wpList P ops Q (o :: rest) a w :=
  wpList_plain hgd fun _ hK => wp_append_bs w s x t ho base i ht hi hz hsz hby A n c xs hn hs hown X m d l hl hx hX hm hbase fun A' c' w' h2 h3 h4 => hK _ _ (h A' c' w' h2 h3 h4)
theorem step_append_bs {ops : Array Oper} {o : Oper} {a : Act} {K : Act → World → Prop} {Q : Exit → Act → World → Prop} {E : Prop} (hgd : o.guard = none) (s x : Operand) (t : TypeId)
    (ho : o.op = .call { callee := .builtin .append, args := #[s, x], argTypes := #[t, t] })
    (base : Nat) (i : TypeInfo) (ht : P.underlying t = some (.slice 5)) (hi : P.info? 5 = some i) (hz : i.zero = some (.int .u8 0))
    (hsz : i.size = 1) (hby : i.bytes = 1) (A : Option Addr) (n c : Nat) (xs : List UInt8) (hn : xs.length = n) (hs : a.eval s = .slice A n c) (hown : OwnB w base A c xs)
    (X : Option Addr) (m d : Nat) (l : List UInt8) (hl : l.length = m) (hx : a.eval x = .slice X m d) (hX : Bs w X l) (hm : xs.length + l.length ≤ 140737488355328) (hbase : base ≤ w.heap.size)
    (h : ∀ A' c' w', OwnB w' base A' c' (xs ++ l) → w.grownBy w' (Value.slice A n c).ownBlock → ((Value.slice A' (n + m) c').ownBlock = (Value.slice A n c).ownBlock ∨ (Value.slice A' (n + m) c').ownBlock = some w.heap.size) → K (a.put o.dst (.slice A' (n + m) c')) w') :
    if Region.wanted o (yielded ops a.tmps) = true then Oper.wp P o a w K Q else E := by
  rw [if_pos (by simp [Region.wanted, hgd])]
  exact wp_append_bs w s x t ho base i ht hi hz hsz hby A n c xs hn hs hown X m d l hl hx hX hm hbase h
end

section
variable {P : Program} (w : World)

theorem setRow_keep (w : World) (g : Nat) (cs : Array Value) : Keep (fun k => k = g) w (w.setRow g cs) := Keep.grown (row := some g) ⟨rfl, rfl, rfl, by simp, fun k _ hk => setRow_other w g k _ (fun e => hk (by rw [e]))⟩ (fun k hk => by cases hk; rfl)

/-- copy(out, bytes) into a row of zeros that has just been made. -/
theorem run_copy_made (t ty : TypeId) (ht : P.underlying t = some (.slice 5)) (hs : (P.info? 5).map (·.size) = some 1) (base R n c C : Nat) (hR : w.heap[R]? = some (.cells (madeCells #[.int .u8 0] C) 5 (0, 0))) (hb : base ≤ R)
    (X : Option Addr) (l : List UInt8) (hX : Bs w X l) (hl : l.length = n) (hn : n ≤ C) (hC : C ≤ maxLen) :
    ∃ w', (Builtin.copy_ #[t, t] ty #[.slice (some ⟨R, 0, none⟩) n C, .slice X n c]).run P w = .ok (goInt n) w' ∧ OwnB w' base (some ⟨R, 0, none⟩) C l ∧ Keep (fun k => k = R) w w' := by
  subst hl
  rcases Nat.eq_zero_or_pos l.length with h0 | h0
  · obtain rfl : l = [] := List.eq_nil_of_length_eq_zero h0
    refine ⟨w, run_copy_none (P := P) w t t ty 5 (some ⟨R, 0, none⟩) X 0 C 0 c ht hs rfl, ?_, Keep.refl _ _⟩
    exact ⟨rfl, .inr ⟨R, C, _, rfl, hb, hR, Nat.zero_le _, hC, by simp [size_madeCells], rfl⟩⟩
  · obtain ⟨b, o, rfl, hc⟩ := hX h0
    have hz : (madeCells #[Value.int .u8 0] C).size = C := size_madeCells _ _
    have hr := run_copy_row (P := P) w t t ty 5 R 0 l.length C ⟨b, o, none⟩ l.length c _ 5 (l.map B8) ht hs hR (by simp) (news_bs hc) (by simp [hz]; omega) one_bytes
    simp only [List.length_map] at hr
    refine ⟨_, hr, ?_, setRow_keep _ _ _⟩
    refine ⟨by simp, .inr ⟨R, C, _, rfl, hb, setRow_heap w R _ _ 5 _ hR, hn, hC, ?_, ?_⟩⟩
    · simp [hz]
      omega
    · simp
theorem wpList_copy_run {ops : Array Oper} {rest : List Oper} {o : Oper} {a : Act} {Q : Exit → Act → World → Prop} (hgd : o.guard = none) (d s : Operand) (dT sT : TypeId)
    (ho : o.op = .call { callee := .builtin .copy, args := #[d, s], argTypes := #[dT, sT] }) (vd vs : Value) (hd : a.eval d = vd) (hs : a.eval s = vs) (v' : Value) (w' : World)
    (hr : (Builtin.copy_ #[dT, sT] o.type #[vd, vs]).run P w = .ok v' w') (h : wpList P ops Q rest (a.put o.dst v') w') : wpList P ops Q (o :: rest) a w := by
  refine wpList_plain hgd fun K hK => ?_
  unfold Oper.wp
  simp only [execOp, ho, resolve, invoke, builtin, Sem.run_bind, Sem.run_pure, Result.andThen_ok, List.map_toArray, List.map_cons, List.map_nil, hd, hs, hr]
  exact hK _ _ h
theorem wpList_storeW {ops : Array Oper} {rest : List Oper} {op : Oper} {a : Act} {Q : Exit → Act → World → Prop} (hgd : op.guard = none) (ty : TypeId) (x y : Operand) (ho : op.op = .store ty x y)
    (g : Nat) (cells : Array Value) (hx : a.eval x = .pointer (some ⟨g, 0, none⟩)) (hy : a.eval y = .agg cells) (c : Array Value) (t : TypeId) (hg : w.heap[g]? = some (.cells c t (0, 0)))
    (hi : (P.info? ty).map (·.size) = some cells.size) (hs : c.size = cells.size) (h1 : cells.all (·.oneCell') = true)
    (h : wpList P ops Q rest (a.put op.dst undef) (w.setRow g cells)) : wpList P ops Q (op :: rest) a w := by
  refine wpList_plain hgd fun K hK => ?_
  unfold Oper.wp execOp
  simp only [ho, hx, hy, Instr.storeAt, Instr.sureAddr, Sem.run_bind, Sem.run_pure, Result.andThen_ok, run_storeVar_row w g t ty c cells hg hi hs h1]
  exact hK _ _ h
theorem wpList_loadW {ops : Array Oper} {rest : List Oper} {op : Oper} {a : Act} {Q : Exit → Act → World → Prop} (hgd : op.guard = none) (ty : TypeId) (x : Operand) (ho : op.op = .load ty x)
    (g : Nat) (hx : a.eval x = .pointer (some ⟨g, 0, none⟩)) (c : Array Value) (t : TypeId) (hg : w.heap[g]? = some (.cells c t (0, 0))) (d : TypeDesc)
    (hu : P.underlying ty = some d) (hd : d.isRow = true) (hi : (P.info? ty).map (·.size) = some c.size)
    (h : wpList P ops Q rest (a.put op.dst (.agg c)) w) : wpList P ops Q (op :: rest) a w := by
  have h' := wpList_load_mid (P := P) (ops := ops) (rest := rest) (Q := Q) hgd ty x ho g 0 hx c.toList d (fun j v hv => by rw [Nat.zero_add]; exact cell_of hg (by simpa using hv)) hu hd (by simpa using hi)
  simp only [Array.toArray_toList] at h'
  exact h' h
end
end Go.Proofs.YtmnmmabhmedioaaDoor
/- Wire: a fault in memory; fail, need; the texts of errors; errors.Is; the law's look at a fault. -/
namespace Go.Proofs.YtmnmmabhmedioaaDoor
open Go.RowKit
set_option linter.unusedVariables false
set_option linter.unusedSimpArgs false
set_option maxRecDepth 100000

/-- A fault. -/
structure FD where
  field : List UInt8
  at_ : Int
  why : Int
def FaultAt (w : World) (b : Nat) (f : FD) : Prop := w.heap[b]? = some (.cells #[.string ⟨f.field.toArray⟩, .int .i64 f.at_, .int .i64 f.why] 118 (0, 0))
theorem FaultAt.on {w w' : World} {b : Nat} {f : FD} (hb : Below w.heap.size w w') (h : FaultAt w b f) : FaultAt w' b f := heap_on hb h
/-- The error that bears it; a panic with it. -/
abbrev errOf (b : Nat) : Value := .iface 79 (.pointer (some ⟨b, 0, none⟩))
abbrev Threw (b : Nat) : Ending := .panicked [{ v := errOf b, recovered := false }]

theorem fail_any (s : List UInt8) (at_ why : Int) (w : World) :
    Calls Tryd.prog 78 #[.string ⟨s.toArray⟩, .int .i64 at_, .int .i64 why] w fun e w' => e = Threw w.heap.size ∧ FaultAt w' w.heap.size ⟨s, at_, why⟩ ∧ Below w.heap.size w w' := by
  go_enter Tryd.func78, Tryd.ntmps78
  go_wp2
  exact ⟨rfl, rfl, heap_alloc_new w _, boxed _ _⟩
theorem need_true (s : Value) (at_ why : Value) (w : World) :
    Calls Tryd.prog 38 #[.bool true, s, at_, why] w fun e w' => e = .returned (.tuple #[]) ∧ w = w' := by
  go_enter Tryd.func38, Tryd.ntmps38
  go_wp2
  go_end0
  exact ⟨rfl, rfl⟩
theorem need_false (s : List UInt8) (at_ why : Int) (w : World) :
    Calls Tryd.prog 38 #[.bool false, .string ⟨s.toArray⟩, .int .i64 at_, .int .i64 why] w fun e w' => ∃ b, e = Threw b ∧ w.heap.size ≤ b ∧ FaultAt w' b ⟨s, at_, why⟩ ∧ Below w.heap.size w w' := by
  go_enter Tryd.func38, Tryd.ntmps38
  go_wp2_with fail
  refine (fail_any s at_ why w).mono ?_
  rintro e w1 ⟨rfl, h1, h2⟩
  go_wp2
  exact ⟨rfl, w.heap.size, rfl, Nat.le_refl _, h1, h2⟩
/-! ### texts -/
abbrev Tab (B : Nat) (w : World) : Prop := Lib.TabBelow Tryd.prog B w "internal/strconv.uint64pow10" .u64 Lib.pow10Tab
theorem Tab.on {w w' : World} (h : Tab w.heap.size w) (hb : Below w.heap.size w w') : Tab w'.heap.size w' := fun w2 h2 => h w2 (later hb h2)
theorem Tab.at {w w' : World} (h : Tab w.heap.size w) (hb : Below w.heap.size w w') : Lib.TabIs Tryd.prog w' "internal/strconv.uint64pow10" .u64 Lib.pow10Tab := h w' hb
theorem itoa_any (n : Int) (h0 : 0 ≤ n) (h1 : n ≤ 1099511627776) (w : World) (ht : Lib.TabIs Tryd.prog w "internal/strconv.uint64pow10" .u64 Lib.pow10Tab) :
    Calls Tryd.prog 73 #[.int .i64 n] w fun e w' => e = .returned (.string ⟨(Lib.itoa n).toArray⟩) ∧ Below w.heap.size w w' :=
  (Tryd.strconv_Itoa n (by omega) (by omega) w ht).mono fun e w' ⟨he, k, os, hw⟩ => ⟨he, hw ▸ Lib.below_grow _ w (Nat.le_refl _) k os⟩
theorem str_val {a : ByteArray} {b : List UInt8} (h : a.data.toList = b) : Value.string a = .string ⟨b.toArray⟩ := by
  subst h
  rfl
theorem nDigits_le {u k : Nat} (h : u < 10 ^ (k + 1)) : Lib.nDigits u ≤ k + 1 := by
  induction k generalizing u with
  | zero => rw [Lib.nDigits_small (by simpa using h)]; exact Nat.le_refl _
  | succ k ih =>
    by_cases h10 : u < 10
    · rw [Lib.nDigits_small h10]; omega
    · rw [Lib.nDigits_big h10]
      have := ih (u := u / 10) (by rw [Nat.pow_succ] at h; omega)
      omega
theorem decDigits_len (n : Nat) (h : n ≤ 1099511627776) : (Lib.decDigits n).length ≤ 20 := by
  rw [Lib.decDigits_length]; exact nDigits_le (k := 19) (by omega)
theorem itoa_dec (n : Nat) : Lib.itoa (n : Int) = Lib.decDigits n := Lib.itoa_nonneg n
theorem itoa_len {n : Int} (h0 : 0 ≤ n) (h1 : n ≤ 1099511627776) : (Lib.itoa n).length ≤ 20 := by
  obtain ⟨k, rfl⟩ := Int.eq_ofNat_of_zero_le h0
  rw [itoa_dec]
  exact decDigits_len k (by omega)
def kRime : List UInt8 := [114, 105, 109, 101, 32]
def kAt : List UInt8 := [32, 97, 116, 32]
def kColon : List UInt8 := [58, 32]
def FD.text (f : FD) : List UInt8 := f.field ++ kAt ++ Lib.itoa f.at_ ++ kColon ++ (kRime ++ Lib.itoa f.why)

theorem errno_any (n : Int) (h0 : 0 ≤ n) (h1 : n ≤ 1099511627776) (w : World) (ht : Lib.TabIs Tryd.prog w "internal/strconv.uint64pow10" .u64 Lib.pow10Tab) :
    Calls Tryd.prog 51 #[.int .i64 n] w fun e w' => e = .returned (.string ⟨(kRime ++ Lib.itoa n).toArray⟩) ∧ Below w.heap.size w w' := by
  have hl := itoa_len h0 h1
  have q1 : ¬ (9223372036854775807 < 5 + (Lib.itoa n).length) := by omega
  go_enter Tryd.func51, Tryd.ntmps51
  go_wp2_with fail
  refine (itoa_any n h0 h1 w ht).mono ?_
  rintro e w1 ⟨rfl, h⟩
  go_wp2
  go_ret
  refine ⟨congrArg Ending.returned (str_val (by simp [kRime])), h⟩

theorem keepF {w W W' : World} {b : Nat} {fl : List UInt8} {fa fw : Int} (h : Below W.heap.size W W') (hS : W.cell? ⟨b, 0, none⟩ = some (.string ⟨fl.toArray⟩) ∧ W.cell? ⟨b, 1, none⟩ = some (.int .i64 fa) ∧ W.cell? ⟨b, 2, none⟩ = some (.int .i64 fw) ∧ Below w.heap.size w W) :
    W'.cell? ⟨b, 0, none⟩ = some (.string ⟨fl.toArray⟩) ∧ W'.cell? ⟨b, 1, none⟩ = some (.int .i64 fa) ∧ W'.cell? ⟨b, 2, none⟩ = some (.int .i64 fw) ∧ Below w.heap.size w W' :=
  ⟨cell_on h hS.1, cell_on h hS.2.1, cell_on h hS.2.2.1, later hS.2.2.2 h⟩

set_option maxHeartbeats 4000000 in
theorem ferror_any (b : Nat) (f : FD) (w : World) (hf : FaultAt w b f) (ht : Tab w.heap.size w) (h0 : 0 ≤ f.at_) (h1 : f.at_ ≤ 1099511627776) (h2 : 0 ≤ f.why) (h3 : f.why ≤ 1099511627776) (h4 : f.field.length ≤ 100) :
    Calls Tryd.prog 26 #[.pointer (some ⟨b, 0, none⟩)] w fun e w' => e = .returned (.string ⟨f.text.toArray⟩) ∧ Below w.heap.size w w' := by
  obtain ⟨fl, fa, fw⟩ := f
  simp only at h0 h1 h2 h3 h4
  have l1 := itoa_len h0 h1
  have l2 := itoa_len h2 h3
  have c0 : w.cell? ⟨b, 0, none⟩ = some (.string ⟨fl.toArray⟩) := cell_of hf rfl
  have c1 : w.cell? ⟨b, 1, none⟩ = some (.int .i64 fa) := cell_of hf rfl
  have c2 : w.cell? ⟨b, 2, none⟩ = some (.int .i64 fw) := cell_of hf rfl
  replace hf := Lib.hid hf
  replace ht := Lib.hid ht
  have hbb := Below.refl w.heap.size w
  have q1 : ¬ (9223372036854775807 < fl.length + 4) := by omega
  have q2 : ¬ (9223372036854775807 < fl.length + 4 + (Lib.itoa fa).length) := by omega
  have q3 : ¬ (9223372036854775807 < fl.length + 4 + (Lib.itoa fa).length + 2) := by omega
  have q4 : ¬ (9223372036854775807 < fl.length + 4 + (Lib.itoa fa).length + 2 + (kRime.length + (Lib.itoa fw).length)) := by
    have : kRime.length = 5 := rfl
    omega
  go_enter Tryd.func26, Tryd.ntmps26
  go_wp2_with fail
  go_region_held3 (fun w' => w'.cell? ⟨b, 0, none⟩ = some (.string ⟨fl.toArray⟩) ∧ w'.cell? ⟨b, 1, none⟩ = some (.int .i64 fa) ∧ w'.cell? ⟨b, 2, none⟩ = some (.int .i64 fw) ∧ Below w.heap.size w w')
    (first | ((try dsimp only); exact ⟨c0, c1, c2, hbb.drew⟩) | (go_split_ands; exact keepF (by assumption) ⟨by assumption, by assumption, by assumption, by assumption⟩))
    (first
      | (go_at_call 73; go_split_ands; refine (itoa_any _ ?_ ?_ _ (ht.out.at ?_)).mono ?_; (omega); (omega); (assumption); rintro e w' ⟨rfl, hb'⟩)
      | (go_at_call 51; go_split_ands; refine (errno_any _ ?_ ?_ _ (ht.out.at ?_)).mono ?_; (omega); (omega); (assumption); rintro e w' ⟨rfl, hb'⟩))
  all_goals
    go_split_ands
    go_wp2
    go_ret
    refine ⟨congrArg Ending.returned (str_val (by simp [FD.text, kAt, kColon, kRime])), by assumption⟩

theorem funwrap_any (b : Nat) (f : FD) (w : World) (hf : FaultAt w b f) :
    Calls Tryd.prog 27 #[.pointer (some ⟨b, 0, none⟩)] w fun e w' => e = .returned (.iface 34 (.int .i64 f.why)) ∧ w' = w := by
  have c2 : w.cell? ⟨b, 2, none⟩ = some (.int .i64 f.why) := cell_of hf rfl
  go_enter Tryd.func27, Tryd.ntmps27
  go_wp2
  go_ret
  exact ⟨rfl, rfl⟩

/-! ### errors.Is of a fault and its number -/
section
open Go.Extern.Stop Go.Stop Go.Extern
theorem is_typeOf (v : Value) (w : World) : (callFunc 80 #[.iface 34 v]).run Tryd.prog w = .ok (.value (.iface 200 (.agg #[.pointer (some ⟨Tryd.prog.globals.size, 34, none⟩)]))) w := by kernel_rfl
theorem is_comp (n : Nat) (hn : n = Tryd.prog.globals.size) (w : World) : (callFunc 139 #[.agg #[.pointer (some ⟨n, 34, none⟩)]]).run Tryd.prog w = .ok (.value (.bool true)) w := by
  subst hn
  kernel_rfl
theorem is_mComp (v : Value) (w : World) : (Go.method 162 200 v "Comparable").run Tryd.prog w = .ok (139, v) w := by kernel_rfl
theorem is_noIs (v : Value) (xT : TypeId) (w : World) : (Instr.typeAssert (.iface 79 v) xT 202 true).run Tryd.prog w = .ok (.tuple #[.nilIface, .bool false]) w := run_typeAssert_lacksB Tryd.underlying202 (by kernel_rfl) (by kernel_rfl) v xT w
theorem is_hasU (v : Value) (xT : TypeId) (w : World) : (Instr.typeAssert (.iface 79 v) xT 204 true).run Tryd.prog w = .ok (.tuple #[.iface 79 v, .bool true]) w := run_typeAssert_hasB Tryd.underlying204 (by kernel_rfl) v xT w
theorem is_mU (v : Value) (w : World) : (Go.method 204 79 v "Unwrap").run Tryd.prog w = .ok (27, v) w := by kernel_rfl

theorem is_eq (x y : Int) (w : World) : (binOp BinOp.eql 38 (.iface 34 (.int .i64 x)) (.iface 34 (.int .i64 y))).run Tryd.prog w = .ok (.bool (decide (x = y))) w := by kernel_rfl

set_option maxHeartbeats 8000000 in
theorem is_fault (b : Nat) (f : FD) (w : World) (hf : FaultAt w b f) :
    Calls Tryd.prog 49 #[errOf b, .iface 34 (.int .i64 f.why)] w fun e w' => e = .returned (.bool true) ∧ w' = w := by
  have hu := Lib.hid (funwrap_any b f w hf)
  generalize f.why = y at hu ⊢
  have h7 := is_eq y y
  have h1 := is_typeOf
  have h3 := is_mComp
  have h4 := is_noIs
  have h5 := is_hasU
  have h6 := is_mU
  have hty := run_eql_iface_types (P := Tryd.prog) 79 34 (.pointer (some ⟨b, 0, none⟩)) (.int .i64 y) Tryd.underlying38 (by decide) w
  go_enter Tryd.func49, Tryd.ntmps49
  go_wp2_with fail
  rw [is_comp _ (by kernel_rfl)]
  rw [Oper.upon_value]
  go_wp2
  refine wp_loop_rounds 2 ?_
  rw [rounds_succ]
  go_wp2_with (go_at_call 27; refine hu.out.mono ?_; rintro e w' ⟨rfl, rfl⟩)
  rw [rounds_succ]
  go_wp2_with fail
  go_ret
  exact ⟨rfl, rfl⟩
end
end Go.Proofs.YtmnmmabhmedioaaDoor
/- errors.As at a target of *wire.Fault. (Printed by gen_as.py, after the kit's worked example.) -/
namespace Go.Proofs.YtmnmmabhmedioaaDoor
open Go.RowKit Go.Extern.Stop Go.Stop Go.Extern
set_option linter.unusedVariables false
set_option linter.unusedSimpArgs false
set_option maxRecDepth 100000
/-- errors.As(nil, target). -/
theorem as_nil (t : Value) (w : World) :
    Calls Tryd.prog 74 #[.nilIface, t] w fun e w' => e = .returned (.bool false) ∧ w' = w := by
  go_enter Tryd.func74, Tryd.ntmps74
  go_wp2
  go_ret
  exact ⟨rfl, rfl⟩

theorem asF_valueOf27 (t : Addr) (w : World) : (ReflectliteValue.unpack (.iface 152 (.pointer (some t)))).run Tryd.prog w
    = .ok (.agg #[.pointer (some ⟨4, 152, none⟩), .pointer (some ⟨w.heap.size, 0, none⟩), .int .u64 150]) (w.alloc (.cells #[.pointer (some t)] 152)) := by kernel_rfl
theorem asF_type27 (a : Addr) (w : World) : (ReflectliteValue.methodAny (ReflectliteValue.valueError "reflectlite.Value.Type" 0) (fun t _ _ _ => ReflectliteType.toType t) #[.agg #[.pointer (some ⟨4, 152, none⟩), .pointer (some a), .int .u64 150]]).run Tryd.prog w
    = .ok (.iface 200 (.agg #[.pointer (some ⟨4, 152, none⟩)])) w := by kernel_rfl
theorem asF_methodKind (h : Value) (w : World) : (Go.method 162 200 (.agg #[h]) "Kind").run Tryd.prog w = .ok (130, h) w := by kernel_rfl
theorem asF_kind27 (w : World) : ((ReflectliteType.abiMethod fun t => (fun a : Nat => Value.int IntKind.u8 (a : Int)) <$> Rtype.kind t) #[.pointer (some ⟨4, 152, none⟩)]).run Tryd.prog w = .ok (.int .u8 22) w := by kernel_rfl
theorem asF_kind25 (w : World) : ((ReflectliteType.abiMethod fun t => (fun a : Nat => Value.int IntKind.u8 (a : Int)) <$> Rtype.kind t) #[.pointer (some ⟨4, 79, none⟩)]).run Tryd.prog w = .ok (.int .u8 22) w := by kernel_rfl

theorem rlm (z : Sem Value) (f : TypeId → Addr → Nat → Nat → Sem Value) (v : Value) :
    ReflectliteValue.method z f #[v] = (do match ← ReflectliteValue.parts v with | none => z | some (t, a, fl) => f t a fl (fl % 32)) := rfl
theorem asF_parts27 (a : Addr) (w : World) : (ReflectliteValue.parts (.agg #[.pointer (some ⟨4, 152, none⟩), .pointer (some a), .int .u64 150])).run Tryd.prog w = .ok (some (152, a, 150)) w := by kernel_rfl
/-- (Value).IsNil at the Value of a **p.E that is not nil. -/
theorem asF_isNil27 (a p : Addr) (W : World) (ha : W.cell? a = some (.pointer (some p))) :
    (ReflectliteValue.method (ReflectliteValue.valueError "reflectlite.Value.IsNil" 0) ReflectliteValue.isNil #[.agg #[.pointer (some ⟨4, 152, none⟩), .pointer (some a), .int .u64 150]]).run Tryd.prog W = .ok (.bool false) W := by
  rw [rlm]
  simp only [Sem.run_bind, asF_parts27, Result.andThen]
  simp [ReflectliteValue.isNil, loadVar, isAgg, underlying, Tryd.underlying152, ha, Result.andThen]

theorem asF_methodElem (h : Value) (w : World) : (Go.method 162 200 (.agg #[h]) "Elem").run Tryd.prog w = .ok (140, .agg #[h]) w := by kernel_rfl
theorem asF_methodImplements (h : Value) (w : World) : (Go.method 162 200 (.agg #[h]) "Implements").run Tryd.prog w = .ok (141, .agg #[h]) w := by kernel_rfl
theorem asF_methodAssignableTo (h : Value) (w : World) : (Go.method 162 200 (.agg #[h]) "AssignableTo").run Tryd.prog w = .ok (138, .agg #[h]) w := by kernel_rfl
theorem asF_elem27 (w : World) : (ReflectliteType.method ReflectliteType.elem #[.agg #[.pointer (some ⟨4, 152, none⟩)]]).run Tryd.prog w = .ok (.iface 200 (.agg #[.pointer (some ⟨4, 79, none⟩)])) w := by kernel_rfl
theorem asF_implements25 (w : World) : (ReflectliteType.relation "Implements" ReflectliteType.implements_ #[.agg #[.pointer (some ⟨4, 79, none⟩)], .iface 200 (.agg #[.pointer (some ⟨4, 38, none⟩)])]).run Tryd.prog w = .ok (.bool true) w := by kernel_rfl
theorem asF_typeOf25 (v : Value) (w : World) : (ReflectliteType.typeOf #[.iface 79 v]).run Tryd.prog w = .ok (.iface 200 (.agg #[.pointer (some ⟨4, 79, none⟩)])) w := by kernel_rfl
theorem asF_assignable25 (w : World) : (ReflectliteType.relation "AssignableTo" ReflectliteType.assignableTo #[.agg #[.pointer (some ⟨4, 79, none⟩)], .iface 200 (.agg #[.pointer (some ⟨4, 79, none⟩)])]).run Tryd.prog w = .ok (.bool true) w := by kernel_rfl
theorem asF_valueOf25 (e : Addr) (w : World) : (ReflectliteValue.unpack (.iface 79 (.pointer (some e)))).run Tryd.prog w
    = .ok (.agg #[.pointer (some ⟨4, 79, none⟩), .pointer (some ⟨w.heap.size, 0, none⟩), .int .u64 150]) (w.alloc (.cells #[.pointer (some e)] 79)) := by kernel_rfl

theorem asF_elemOf27 (w : World) : (Rtype.elem? 152).run Tryd.prog w = .ok (some 79) w := by kernel_rfl
theorem asF_mk25 (p : Addr) (w : World) : (ReflectliteValue.mk 79 p ReflectliteValue.flagAddr).run Tryd.prog w = .ok (.agg #[.pointer (some ⟨4, 79, none⟩), .pointer (some p), .int .u64 406]) w := by kernel_rfl
/-- (Value).Elem at the Value of a **p.E that is not nil: the Value of the *p.E variable that it points to, addressable. -/
theorem asF_elemV27 (a p : Addr) (W : World) (ha : W.cell? a = some (.pointer (some p))) :
    (ReflectliteValue.method (ReflectliteValue.valueError "reflectlite.Value.Elem" 0) ReflectliteValue.elem #[.agg #[.pointer (some ⟨4, 152, none⟩), .pointer (some a), .int .u64 150]]).run Tryd.prog W
      = .ok (.agg #[.pointer (some ⟨4, 79, none⟩), .pointer (some p), .int .u64 406]) W := by
  rw [rlm]
  simp only [Sem.run_bind, asF_parts27, Result.andThen]
  simp [ReflectliteValue.elem, loadVar, isAgg, underlying, Tryd.underlying152, ha, Result.andThen, asF_elemOf27, asF_mk25]
theorem rls (v x : Value) : ReflectliteValue.set #[v, x] = (do
    let (some (dst, a, fl), some (src, b, _)) := (← ReflectliteValue.parts v, ← ReflectliteValue.parts x)
      | unsupported (.noEntry "extern/(internal/reflectlite.Value).Set.zeroValue")
    if fl / ReflectliteValue.flagAddr % 2 == 0 then unsupported (.noEntry "extern/(internal/reflectlite.Value).Set.unaddressable")
    let val ← loadVar src b
    if ← Rtype.directlyAssignable dst src then storeVar dst a val
    else if ← Rtype.implements dst src then
      if (← Rtype.kind src) == 20 then
        match val with
        | .nilIface => unsupported (.noEntry "extern/reflectlite: a nil value of one interface type handed on as a value of another")
        | _ => storeVar dst a val
      else storeVar dst a (.iface src val)
    else panicString ("reflectlite.Set: value of type " ++ (← Rtype.spelt src) ++ " is not assignable to type " ++ (← Rtype.spelt dst))
    pure (.tuple #[])) := rfl
theorem asF_parts25a (a : Addr) (w : World) : (ReflectliteValue.parts (.agg #[.pointer (some ⟨4, 79, none⟩), .pointer (some a), .int .u64 406])).run Tryd.prog w = .ok (some (79, a, 406)) w := by kernel_rfl
theorem asF_parts25 (a : Addr) (w : World) : (ReflectliteValue.parts (.agg #[.pointer (some ⟨4, 79, none⟩), .pointer (some a), .int .u64 150])).run Tryd.prog w = .ok (some (79, a, 150)) w := by kernel_rfl
theorem asF_direct25 (w : World) : (Rtype.directlyAssignable 79 79).run Tryd.prog w = .ok true w := by kernel_rfl
theorem asF_size25 (w : World) : (sizeOf 79).run Tryd.prog w = .ok 1 w := by kernel_rfl
/-- (Value).Set: the *p.E variable at 'ta' gets what the Value's own variable 'b' holds. -/
theorem asF_set25 (ta b e : Addr) (old : Value) (W : World) (hb : W.cell? b = some (.pointer (some e))) (ht : W.cell? ta = some old) (hf : W.frozen? ta = false) :
    (ReflectliteValue.set #[.agg #[.pointer (some ⟨4, 79, none⟩), .pointer (some ta), .int .u64 406], .agg #[.pointer (some ⟨4, 79, none⟩), .pointer (some b), .int .u64 150]]).run Tryd.prog W
      = .ok (.tuple #[]) (W.setCell ta (.pointer (some e))) := by
  rw [rls]
  simp only [Sem.run_bind, asF_parts25a, asF_parts25, Result.andThen]
  simp [ReflectliteValue.flagAddr, loadVar, isAgg, underlying, Tryd.underlying79, hb, Result.andThen, asF_direct25, storeVar, Value.cells, storeCells, Addr.add]
  rw [run_store Tryd.prog W ta _ _ (by rfl)]
  simp [ht, hf]

set_option maxHeartbeats 4000000 in
theorem as_hit (e t : Addr) (old : Value) (w : World) (hg : w.cell? ⟨0, 0, none⟩ = some (.iface 200 (.agg #[.pointer (some ⟨4, 38, none⟩)]))) (ht0 : w.cell? t = some old) (hf0 : w.frozen? t = false) :
    Calls Tryd.prog 74 #[.iface 79 (.pointer (some e)), .iface 152 (.pointer (some t))] w fun ev w' => ev = .returned (.bool true) ∧ w' = ((((w.alloc (.cells #[.pointer (some t)] 152)).alloc (.cells #[.pointer (some ⟨4, 152, none⟩), .pointer (some ⟨w.heap.size, 0, none⟩), .int .u64 150] 183)).alloc (.cells #[.pointer (some ⟨4, 152, none⟩), .pointer (some ⟨w.heap.size, 0, none⟩), .int .u64 150] 183)).alloc (.cells #[.pointer (some e)] 79)).setCell t (.pointer (some e)) := by
  have h6 := @run_callFunc_extern Tryd.prog 85 _ (fun args => ReflectliteValue.unpack (args.getD 0 (.tuple #[]))) Tryd.func85 (by kernel_rfl) (by kernel_rfl) (by kernel_rfl) (by kernel_rfl)
  have h7 := @run_callFunc_extern Tryd.prog 86 _ (ReflectliteValue.methodAny (ReflectliteValue.valueError "reflectlite.Value.Type" 0) (fun t _ _ _ => ReflectliteType.toType t)) Tryd.func86 (by kernel_rfl) (by kernel_rfl) (by kernel_rfl) (by kernel_rfl)
  have h8 := @run_callFunc_extern Tryd.prog 87 _ (ReflectliteValue.method (ReflectliteValue.valueError "reflectlite.Value.IsNil" 0) ReflectliteValue.isNil) Tryd.func87 (by kernel_rfl) (by kernel_rfl) (by kernel_rfl) (by kernel_rfl)
  have h27 := @run_callFunc_extern Tryd.prog 130 _ (ReflectliteType.abiMethod fun t => do pure (.int .u8 (← Rtype.kind t))) Tryd.func130 (by kernel_rfl) (by kernel_rfl) (by kernel_rfl) (by kernel_rfl)
  have h37 := @run_callFunc_extern Tryd.prog 140 _ (ReflectliteType.method ReflectliteType.elem) Tryd.func140 (by kernel_rfl) (by kernel_rfl) (by kernel_rfl) (by kernel_rfl)
  have h38 := @run_callFunc_extern Tryd.prog 141 _ (ReflectliteType.relation "Implements" ReflectliteType.implements_) Tryd.func141 (by kernel_rfl) (by kernel_rfl) (by kernel_rfl) (by kernel_rfl)
  have h10 := @run_callFunc_extern Tryd.prog 80 _ ReflectliteType.typeOf Tryd.func80 (by kernel_rfl) (by kernel_rfl) (by kernel_rfl) (by kernel_rfl)
  have h35 := @run_callFunc_extern Tryd.prog 138 _ (ReflectliteType.relation "AssignableTo" ReflectliteType.assignableTo) Tryd.func138 (by kernel_rfl) (by kernel_rfl) (by kernel_rfl) (by kernel_rfl)
  have h11 := @run_callFunc_extern Tryd.prog 96 _ (ReflectliteValue.method (ReflectliteValue.valueError "reflectlite.Value.Elem" 0) ReflectliteValue.elem) Tryd.func96 (by kernel_rfl) (by kernel_rfl) (by kernel_rfl) (by kernel_rfl)
  have h12 := @run_callFunc_extern Tryd.prog 97 _ ReflectliteValue.set Tryd.func97 (by kernel_rfl) (by kernel_rfl) (by kernel_rfl) (by kernel_rfl)
  have tO := asF_typeOf25
  have mA := asF_methodAssignableTo
  have a25 := asF_assignable25
  have v25 := asF_valueOf25
  have f6 := asF_valueOf27
  have f7 := asF_type27
  have mK := asF_methodKind
  have mE := asF_methodElem
  have mI := asF_methodImplements
  have k27 := asF_kind27
  have k25 := asF_kind25
  have e27 := asF_elem27
  have i25 := asF_implements25
  have n8 := asF_isNil27 ⟨w.heap.size, 0, none⟩ t ((w.alloc (.cells #[.pointer (some t)] 152)).alloc (.cells #[.pointer (some ⟨4, 152, none⟩), .pointer (some ⟨w.heap.size, 0, none⟩), .int .u64 150] 183)) (by simp)
  have hlt : 0 < w.heap.size := by
    rcases Nat.eq_zero_or_pos w.heap.size with h0 | h
    · simp [World.cell?, h0] at hg
    · exact h
  have hg2 : ((w.alloc (.cells #[.pointer (some t)] 152)).alloc (.cells #[.pointer (some ⟨4, 152, none⟩), .pointer (some ⟨w.heap.size, 0, none⟩), .int .u64 150] 183)).cell? ⟨0, 0, none⟩ = some (.iface 200 (.agg #[.pointer (some ⟨4, 38, none⟩)])) := by
    rw [World.cell?_alloc_lt _ _ ⟨0, 0, none⟩ (by simp), World.cell?_alloc_lt _ _ ⟨0, 0, none⟩ hlt]; exact hg
  have htl : t.block < w.heap.size := by
    rcases Nat.lt_or_ge t.block w.heap.size with h | h
    · exact h
    · simp [World.cell?, Array.getElem?_eq_none h] at ht0
  have el := asF_elemV27 ⟨w.heap.size, 0, none⟩ t (((w.alloc (.cells #[.pointer (some t)] 152)).alloc (.cells #[.pointer (some ⟨4, 152, none⟩), .pointer (some ⟨w.heap.size, 0, none⟩), .int .u64 150] 183)).alloc (.cells #[.pointer (some ⟨4, 152, none⟩), .pointer (some ⟨w.heap.size, 0, none⟩), .int .u64 150] 183)) (by rw [World.cell?_alloc_lt _ _ ⟨w.heap.size, 0, none⟩ (by simp; omega)]; simp)
  have st := asF_set25 t ⟨w.heap.size + 1 + 1 + 1, 0, none⟩ e old ((((w.alloc (.cells #[.pointer (some t)] 152)).alloc (.cells #[.pointer (some ⟨4, 152, none⟩), .pointer (some ⟨w.heap.size, 0, none⟩), .int .u64 150] 183)).alloc (.cells #[.pointer (some ⟨4, 152, none⟩), .pointer (some ⟨w.heap.size, 0, none⟩), .int .u64 150] 183)).alloc (.cells #[.pointer (some e)] 79))
    (by rw [World.cell?_alloc_at _ _ _ _ (by simp)]; rfl)
    (by rw [World.cell?_alloc_lt _ _ t (by simp; omega), World.cell?_alloc_lt _ _ t (by simp; omega), World.cell?_alloc_lt _ _ t (by simp; omega), World.cell?_alloc_lt _ _ t htl]; exact ht0)
    (by rw [World.frozen?_alloc_old _ _ t (by simp; omega), World.frozen?_alloc_old _ _ t (by simp; omega), World.frozen?_alloc_old _ _ t (by simp; omega), World.frozen?_alloc_old _ _ t (Nat.ne_of_lt htl)]; exact hf0)
  go_enter Tryd.func74, Tryd.ntmps74
  go_wp2
  refine wp_loop_rounds 1 ?_
  rw [rounds_succ]
  go_wp2
  go_ret
  exact ⟨rfl, rfl⟩
end Go.Proofs.YtmnmmabhmedioaaDoor
