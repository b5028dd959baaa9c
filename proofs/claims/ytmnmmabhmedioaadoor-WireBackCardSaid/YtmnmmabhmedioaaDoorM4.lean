/- SHA-512: a block. -/
import Derived.Test.YtmnmmabhmedioaaDoorM3
import Derived.Deep.RegionLaw
import Derived.StillTailTactics
namespace Go.Proofs.YtmnmmabhmedioaaDoor
open Go.RowKit
set_option linter.unusedVariables false
set_option linter.unusedSimpArgs false

/-- The bytes of a block as words, the highest byte first. -/
def beTo (bs : List UInt8) (i j : Nat) : UInt64 := (List.range j).foldl (fun acc k => (acc <<< 8) ||| (bs.getD (8 * i + k) 0).toUInt64) 0
def beW (bs : List UInt8) (n : Nat) : List UInt64 := (List.range n).map fun i => beTo bs i 8

theorem ror_of (k : Int) (h : k = 1 ∨ k = 8 ∨ k = 14 ∨ k = 18 ∨ k = 19 ∨ k = 28 ∨ k = 34 ∨ k = 39 ∨ k = 41 ∨ k = 61) (x : UInt64) (w : World) :
    Calls Tryd.prog 107 #[U x, .int .i64 k] w fun e w' => e = .returned (U (rotr k.toNat x)) ∧ w = w' := by
  rcases h with rfl | rfl | rfl | rfl | rfl | rfl | rfl | rfl | rfl | rfl
  · exact ror_1 x w
  · exact ror_8 x w
  · exact ror_14 x w
  · exact ror_18 x w
  · exact ror_19 x w
  · exact ror_28 x w
  · exact ror_34 x w
  · exact ror_39 x w
  · exact ror_41 x w
  · exact ror_61 x w

theorem ror_st (k : Int) (h : k = 1 ∨ k = 8 ∨ k = 14 ∨ k = 18 ∨ k = 19 ∨ k = 28 ∨ k = 34 ∨ k = 39 ∨ k = 41 ∨ k = 61) (x : UInt64) (w : World) :
    Calls Tryd.prog 107 #[U x, .int .i64 k] w fun e w' => e = .returned (U (rotr k.toNat x)) ∧ w' = w :=
  (ror_of k h x w).mono fun _ _ h => ⟨h.1, h.2.symm⟩

theorem quiet_left {P : Program} {f : FuncId} {args : Array Value} {w : World} {n : Nat} {v : Value}
    (h : Calls P f args (w.drewN n) fun e w' => e = .returned v ∧ w.drewN n = w') : Calls P f args (w.drewN n) fun e w'' => e = .returned v ∧ ∃ m, w'' = w.drewN m :=
  h.mono fun _ _ ⟨he, hm⟩ => ⟨he, n, hm.symm⟩

theorem begin_any (w : World) : Calls Tryd.prog 99 #[] w fun e w' => e = .returned (.agg (words hW)) ∧ Below w.heap.size w w' := by
  go_enter Tryd.func99, Tryd.ntmps99
  go_wp2
  exact bodyPost_ret (v := .agg (words hW)) (by simp [results, Tryd.results99, go_sem]; rfl) rfl ⟨rfl, (Below.refl _ _).alloc (Nat.le_refl _) _⟩

/-- 80 words. -/
def arr80 (f : Nat → UInt64) : Array Value := ((List.range 80).map fun j => U (f j)).toArray
def upd (f : Nat → UInt64) (i : Nat) (v : UInt64) (j : Nat) : UInt64 := if j = i then v else f j
theorem arr80_get (f : Nat → UInt64) {j : Nat} (h : j < 80) : (arr80 f)[j]? = some (U (f j)) := by simp [arr80, h]
theorem arr80_set (f : Nat → UInt64) (i : Nat) (v : UInt64) : (arr80 f).setIfInBounds i (U v) = arr80 (upd f i v) := by
  apply Array.ext
  · simp [arr80]
  · intro j h1 h2
    have h : j < 80 := by simpa [arr80] using h2
    simp only [Array.getElem_setIfInBounds, arr80, List.getElem_toArray, List.getElem_map, List.getElem_range, upd]
    by_cases e : i = j
    · simp [e]
    · simp [e, show ¬ j = i from fun h => e h.symm]
theorem arr80_congr {f g : Nat → UInt64} (h : ∀ j, j < 80 → f j = g j) : arr80 f = arr80 g := by
  unfold arr80
  congr 1
  exact List.map_congr_left fun j hj => by rw [h j (by simpa using hj)]
theorem arr80_zero : Tryd.zeroCells190 = arr80 fun _ => 0 := by
  unfold Tryd.zeroCells190
  rfl

theorem beTo_succ (bs : List UInt8) (i j : Nat) : beTo bs i (j + 1) = (beTo bs i j <<< 8) ||| (bs.getD (8 * i + j) 0).toUInt64 := by
  unfold beTo; rw [List.range_succ, List.foldl_append]; rfl

/-- What the loops keep. -/
structure Kept (w : World) (s0 s1 s2 s3 s4 s5 s6 s7 : UInt64) (f : Nat → UInt64) (wr : World) : Prop where
  hs : wr.heap[w.heap.size]? = some (.cells #[U s0, U s1, U s2, U s3, U s4, U s5, U s6, U s7] 155 (0, 0))
  hr : wr.heap[w.heap.size + 1]? = some (.cells #[Value.int IntKind.u64 0, Value.int IntKind.u64 0, Value.int IntKind.u64 0, Value.int IntKind.u64 0, Value.int IntKind.u64 0, Value.int IntKind.u64 0, Value.int IntKind.u64 0, Value.int IntKind.u64 0] 155 (0, 0))
  hw : wr.heap[w.heap.size + 1 + 1]? = some (.cells (arr80 f) 190 (0, 0))
  bel : Below w.heap.size w wr

theorem Kept.drewN {w wr : World} {s0 s1 s2 s3 s4 s5 s6 s7 : UInt64} {f : Nat → UInt64} (h : Kept w s0 s1 s2 s3 s4 s5 s6 s7 f wr) (n : Nat) : Kept w s0 s1 s2 s3 s4 s5 s6 s7 f (wr.drewN n) := ⟨h.hs, h.hr, h.hw, below_drewN h.bel n⟩
theorem Kept.drew {w wr : World} {s0 s1 s2 s3 s4 s5 s6 s7 : UInt64} {f : Nat → UInt64} (h : Kept w s0 s1 s2 s3 s4 s5 s6 s7 f wr) : Kept w s0 s1 s2 s3 s4 s5 s6 s7 f wr.drew := ⟨h.hs, h.hr, h.hw, h.bel.drew⟩
theorem Kept.set {w wr : World} {s0 s1 s2 s3 s4 s5 s6 s7 : UInt64} {f : Nat → UInt64} (h : Kept w s0 s1 s2 s3 s4 s5 s6 s7 f wr) (i : Nat) (v : UInt64) :
    Kept w s0 s1 s2 s3 s4 s5 s6 s7 (upd f i v) (wr.setCell ⟨w.heap.size + 1 + 1, i, none⟩ (U v)) := by
  refine ⟨?_, ?_, ?_, h.bel.setCell (by show w.heap.size ≤ w.heap.size + 1 + 1; omega) _⟩
  · rw [Below.heap_setCell _ _ _ _ (by show w.heap.size ≠ w.heap.size + 1 + 1; omega)]; exact h.hs
  · rw [Below.heap_setCell _ _ _ _ (by show w.heap.size + 1 ≠ w.heap.size + 1 + 1; omega)]; exact h.hr
  · rw [← arr80_set]; exact heap_set h.hw _
theorem Kept.far {w wr : World} {s0 s1 s2 s3 s4 s5 s6 s7 : UInt64} {f : Nat → UInt64} (h : Kept w s0 s1 s2 s3 s4 s5 s6 s7 f wr) {T : Nat} (hT : w.heap.size + 1 + 1 < T) (j : Nat) (v : Value) : Kept w s0 s1 s2 s3 s4 s5 s6 s7 f (wr.setCell ⟨T, j, none⟩ v) := by
  refine ⟨?_, ?_, ?_, h.bel.setCell (by show w.heap.size ≤ T; omega) _⟩
  · rw [Below.heap_setCell _ _ _ _ (by show w.heap.size ≠ T; omega)]; exact h.hs
  · rw [Below.heap_setCell _ _ _ _ (by show w.heap.size + 1 ≠ T; omega)]; exact h.hr
  · rw [Below.heap_setCell _ _ _ _ (by show w.heap.size + 1 + 1 ≠ T; omega)]; exact h.hw
theorem eight {W : World} {T : Nat} {a0 a1 a2 a3 a4 a5 a6 a7 : Value} {ty : TypeId} (h : W.heap[T]? = some (.cells #[a0, a1, a2, a3, a4, a5, a6, a7] ty (0, 0))) (b0 b1 b2 b3 b4 b5 b6 b7 : Value) :
    ((((((((W.setCell ⟨T, 0, none⟩ b0).setCell ⟨T, 1, none⟩ b1).setCell ⟨T, 2, none⟩ b2).setCell ⟨T, 3, none⟩ b3).setCell ⟨T, 4, none⟩ b4).setCell ⟨T, 5, none⟩ b5).setCell ⟨T, 6, none⟩ b6).setCell ⟨T, 7, none⟩ b7).heap[T]? = some (.cells #[b0, b1, b2, b3, b4, b5, b6, b7] ty (0, 0)) := by
  have h0 : (W.setCell ⟨T, 0, none⟩ b0).heap[T]? = some (.cells #[b0, a1, a2, a3, a4, a5, a6, a7] ty (0, 0)) := heap_set h b0
  have h1 : ((W.setCell ⟨T, 0, none⟩ b0).setCell ⟨T, 1, none⟩ b1).heap[T]? = some (.cells #[b0, b1, a2, a3, a4, a5, a6, a7] ty (0, 0)) := heap_set h0 b1
  have h2 : (((W.setCell ⟨T, 0, none⟩ b0).setCell ⟨T, 1, none⟩ b1).setCell ⟨T, 2, none⟩ b2).heap[T]? = some (.cells #[b0, b1, b2, a3, a4, a5, a6, a7] ty (0, 0)) := heap_set h1 b2
  have h3 : ((((W.setCell ⟨T, 0, none⟩ b0).setCell ⟨T, 1, none⟩ b1).setCell ⟨T, 2, none⟩ b2).setCell ⟨T, 3, none⟩ b3).heap[T]? = some (.cells #[b0, b1, b2, b3, a4, a5, a6, a7] ty (0, 0)) := heap_set h2 b3
  have h4 : (((((W.setCell ⟨T, 0, none⟩ b0).setCell ⟨T, 1, none⟩ b1).setCell ⟨T, 2, none⟩ b2).setCell ⟨T, 3, none⟩ b3).setCell ⟨T, 4, none⟩ b4).heap[T]? = some (.cells #[b0, b1, b2, b3, b4, a5, a6, a7] ty (0, 0)) := heap_set h3 b4
  have h5 : ((((((W.setCell ⟨T, 0, none⟩ b0).setCell ⟨T, 1, none⟩ b1).setCell ⟨T, 2, none⟩ b2).setCell ⟨T, 3, none⟩ b3).setCell ⟨T, 4, none⟩ b4).setCell ⟨T, 5, none⟩ b5).heap[T]? = some (.cells #[b0, b1, b2, b3, b4, b5, a6, a7] ty (0, 0)) := heap_set h4 b5
  have h6 : (((((((W.setCell ⟨T, 0, none⟩ b0).setCell ⟨T, 1, none⟩ b1).setCell ⟨T, 2, none⟩ b2).setCell ⟨T, 3, none⟩ b3).setCell ⟨T, 4, none⟩ b4).setCell ⟨T, 5, none⟩ b5).setCell ⟨T, 6, none⟩ b6).heap[T]? = some (.cells #[b0, b1, b2, b3, b4, b5, b6, a7] ty (0, 0)) := heap_set h5 b6
  have h7 : ((((((((W.setCell ⟨T, 0, none⟩ b0).setCell ⟨T, 1, none⟩ b1).setCell ⟨T, 2, none⟩ b2).setCell ⟨T, 3, none⟩ b3).setCell ⟨T, 4, none⟩ b4).setCell ⟨T, 5, none⟩ b5).setCell ⟨T, 6, none⟩ b6).setCell ⟨T, 7, none⟩ b7).heap[T]? = some (.cells #[b0, b1, b2, b3, b4, b5, b6, b7] ty (0, 0)) := heap_set h6 b7
  exact h7
theorem below8 {w W : World} (h : Below w.heap.size w W) (b0 b1 b2 b3 b4 b5 b6 b7 : Value) :
    Below w.heap.size w ((((((((W.setCell ⟨w.heap.size + 1, 0, none⟩ b0).setCell ⟨w.heap.size + 1, 1, none⟩ b1).setCell ⟨w.heap.size + 1, 2, none⟩ b2).setCell ⟨w.heap.size + 1, 3, none⟩ b3).setCell ⟨w.heap.size + 1, 4, none⟩ b4).setCell ⟨w.heap.size + 1, 5, none⟩ b5).setCell ⟨w.heap.size + 1, 6, none⟩ b6).setCell ⟨w.heap.size + 1, 7, none⟩ b7) :=
  (((((((h.setCell (Nat.le_succ _) _).setCell (Nat.le_succ _) _).setCell (Nat.le_succ _) _).setCell (Nat.le_succ _) _).setCell (Nat.le_succ _) _).setCell (Nat.le_succ _) _).setCell (Nat.le_succ _) _).setCell (Nat.le_succ _) _
theorem Kept.far8 {w wr : World} {s0 s1 s2 s3 s4 s5 s6 s7 : UInt64} {f : Nat → UInt64} (h : Kept w s0 s1 s2 s3 s4 s5 s6 s7 f wr) {T : Nat} (hT : w.heap.size + 1 + 1 < T) (b0 b1 b2 b3 b4 b5 b6 b7 : Value) :
    Kept w s0 s1 s2 s3 s4 s5 s6 s7 f ((((((((wr.setCell ⟨T, 0, none⟩ b0).setCell ⟨T, 1, none⟩ b1).setCell ⟨T, 2, none⟩ b2).setCell ⟨T, 3, none⟩ b3).setCell ⟨T, 4, none⟩ b4).setCell ⟨T, 5, none⟩ b5).setCell ⟨T, 6, none⟩ b6).setCell ⟨T, 7, none⟩ b7) :=
  (((((((h.far hT _ _).far hT _ _).far hT _ _).far hT _ _).far hT _ _).far hT _ _).far hT _ _).far hT _ _
theorem Kept.congr {w wr : World} {s0 s1 s2 s3 s4 s5 s6 s7 : UInt64} {f g : Nat → UInt64} (h : Kept w s0 s1 s2 s3 s4 s5 s6 s7 f wr) (e : ∀ j, j < 80 → f j = g j) : Kept w s0 s1 s2 s3 s4 s5 s6 s7 g wr :=
  ⟨h.hs, h.hr, by rw [← arr80_congr e]; exact h.hw, h.bel⟩

def sch0 (bs : List UInt8) (i : Nat) (j : Nat) : UInt64 := if j < i then beTo bs j 8 else 0

/-- The schedule. -/
def sig0 (x : UInt64) : UInt64 := rotr 1 x ^^^ rotr 8 x ^^^ (x >>> 7)
def sig1 (x : UInt64) : UInt64 := rotr 19 x ^^^ rotr 61 x ^^^ (x >>> 6)
def sched (bs : List UInt8) : Nat → Nat → UInt64
  | 0 => sch0 bs 16
  | n + 1 => upd (sched bs n) (n + 16) (sched bs n n + sig0 (sched bs n (n + 1)) + sched bs n (n + 9) + sig1 (sched bs n (n + 14)))

theorem sched_succ (bs : List UInt8) (n : Nat) : sched bs (n + 1) = upd (sched bs n) (n + 16)
    (sched bs n n + (rotr 1 (sched bs n (n + 1)) ^^^ rotr 8 (sched bs n (n + 1)) ^^^ (sched bs n (n + 1) >>> 7)) + sched bs n (n + 9) + (rotr 19 (sched bs n (n + 14)) ^^^ rotr 61 (sched bs n (n + 14)) ^^^ (sched bs n (n + 14) >>> 6))) := rfl

/-- The state's eight words; a round; the rounds. -/
structure St where
  a : UInt64
  b : UInt64
  c : UInt64
  d : UInt64
  e : UInt64
  f : UInt64
  g : UInt64
  h : UInt64
abbrev St.vals (s : St) : Array Value := #[U s.a, U s.b, U s.c, U s.d, U s.e, U s.f, U s.g, U s.h]
def St.one (s : St) (k w : UInt64) : UInt64 := s.h + (rotr 14 s.e ^^^ rotr 18 s.e ^^^ rotr 41 s.e) + ((s.e &&& s.f) ^^^ (~~~ s.e &&& s.g)) + k + w
def St.two (s : St) : UInt64 := (rotr 28 s.a ^^^ rotr 34 s.a ^^^ rotr 39 s.a) + ((s.a &&& s.b) ^^^ (s.a &&& s.c) ^^^ (s.b &&& s.c))
def St.rnd (s : St) (k w : UInt64) : St := ⟨s.one k w + s.two, s.a, s.b, s.c, s.d + s.one k w, s.e, s.f, s.g⟩
def rounds (s : St) (bs : List UInt8) : Nat → St
  | 0 => s
  | n + 1 => (rounds s bs n).rnd (kW.getD n 0) (sched bs 64 n)
def St.add (s t : St) : St := ⟨s.a + t.a, s.b + t.b, s.c + t.c, s.d + t.d, s.e + t.e, s.f + t.f, s.g + t.g, s.h + t.h⟩
def St.get (s : St) : Nat → UInt64
  | 0 => s.a
  | 1 => s.b
  | 2 => s.c
  | 3 => s.d
  | 4 => s.e
  | 5 => s.f
  | 6 => s.g
  | _ => s.h
def addTo (s t : St) (i : Nat) : St := ⟨if 0 < i then s.a + t.a else s.a, if 1 < i then s.b + t.b else s.b, if 2 < i then s.c + t.c else s.c, if 3 < i then s.d + t.d else s.d, if 4 < i then s.e + t.e else s.e, if 5 < i then s.f + t.f else s.f, if 6 < i then s.g + t.g else s.g, if 7 < i then s.h + t.h else s.h⟩
theorem addTo_8 (s t : St) : addTo s t 8 = s.add t := rfl
theorem vals_get (s : St) {i : Nat} (h : i < 8) : s.vals[i]? = some (U (s.get i)) := by
  match i, h with
  | 0, _ => rfl
  | 1, _ => rfl
  | 2, _ => rfl
  | 3, _ => rfl
  | 4, _ => rfl
  | 5, _ => rfl
  | 6, _ => rfl
  | 7, _ => rfl
theorem addTo_get (s t : St) {i : Nat} (h : i < 8) : (addTo s t i).get i = s.get i := by
  match i, h with
  | 0, _ => rfl
  | 1, _ => rfl
  | 2, _ => rfl
  | 3, _ => rfl
  | 4, _ => rfl
  | 5, _ => rfl
  | 6, _ => rfl
  | 7, _ => rfl
theorem addTo_set (s t : St) {i : Nat} (h : i < 8) : (addTo s t i).vals.setIfInBounds i (U (s.get i + t.get i)) = (addTo s t (i + 1)).vals := by
  match i, h with
  | 0, _ => rfl
  | 1, _ => rfl
  | 2, _ => rfl
  | 3, _ => rfl
  | 4, _ => rfl
  | 5, _ => rfl
  | 6, _ => rfl
  | 7, _ => rfl
def blockF (s : St) (bs : List UInt8) : St := s.add (rounds s bs 80)

set_option maxRecDepth 100000 in
set_option maxHeartbeats 8000000 in
theorem block_any (s0 s1 s2 s3 s4 s5 s6 s7 : UInt64) (bb bo bc kb : Nat) (bs : List UInt8) (w : World) (hl : bs.length = 128)
    (hb : ∀ j, j < 128 → w.cell? ⟨bb, bo + j, none⟩ = some (B8 (bs.getD j 0))) (hk : ∀ j, j < 80 → w.cell? ⟨kb, j, none⟩ = some (U (kW.getD j 0))) :
    Calls Tryd.prog 101 #[.agg #[U s0, U s1, U s2, U s3, U s4, U s5, U s6, U s7], .slice (some ⟨bb, bo, none⟩) 128 bc, .pointer (some ⟨kb, 0, none⟩)] w fun e w' => e = .returned (.agg (blockF ⟨s0, s1, s2, s3, s4, s5, s6, s7⟩ bs).vals) ∧ Below w.heap.size w w' := by
  have hB := Lib.hid hb
  have hK := Lib.hid hk
  clear hb hk
  have e1 : ∀ x : UInt64, IntKind.u64.wrap (nv x * 256) = nv (x <<< 8) := fun x => u64_shl x 8 256 (by omega) (by rfl)
  have e2 := u64_or
  have e3 := u64_of8
  go_enter Tryd.func101, Tryd.ntmps101
  go_wp2
  have hK0 : Kept w s0 s1 s2 s3 s4 s5 s6 s7 (sch0 bs 0) (((w.alloc (Obj.cells #[U s0, U s1, U s2, U s3, U s4, U s5, U s6, U s7] 155)).alloc
      (Obj.cells #[Value.int IntKind.u64 0, Value.int IntKind.u64 0, Value.int IntKind.u64 0, Value.int IntKind.u64 0, Value.int IntKind.u64 0, Value.int IntKind.u64 0, Value.int IntKind.u64 0, Value.int IntKind.u64 0] 155)).alloc (Obj.cells Tryd.zeroCells190 190)) := by
    refine ⟨?_, ?_, ?_, ?_⟩
    · rw [Below.heap_alloc _ _ _ (by simp; omega), Below.heap_alloc _ _ _ (by simp), heap_alloc?, if_pos rfl]
    · rw [Below.heap_alloc _ _ _ (by simp), heap_alloc?, if_pos (by simp)]
    · rw [heap_alloc?, if_pos (by simp), arr80_zero]; rfl
    · exact (((Below.refl _ _).alloc (Nat.le_refl _) _).alloc (by simp) _).alloc (by simp; omega) _
  generalize ((w.alloc (Obj.cells #[U s0, U s1, U s2, U s3, U s4, U s5, U s6, U s7] 155)).alloc
      (Obj.cells #[Value.int IntKind.u64 0, Value.int IntKind.u64 0, Value.int IntKind.u64 0, Value.int IntKind.u64 0, Value.int IntKind.u64 0, Value.int IntKind.u64 0, Value.int IntKind.u64 0, Value.int IntKind.u64 0] 155)).alloc (Obj.cells Tryd.zeroCells190 190) = wi at hK0 ⊢
  go_loopw [8, 20] (fun _ si wr => ∃ i : Nat, i ≤ 16 ∧ si = .int .i64 i ∧ Kept w s0 s1 s2 s3 s4 s5 s6 s7 (sch0 bs i) wr) (fun _ si _ => 16 - (intOf si).toNat)
  case atStart => exact ⟨0, by omega, rfl, hK0⟩
  case round =>
    clear hK0
    obtain ⟨i, hi, rfl, hKr⟩ := hrel
    have hKr := Lib.hid hKr
    by_cases hlt : i < 16
    · go_wp2
      obtain ⟨wo, rfl⟩ : ∃ wo : World, wo = wr := ⟨_, rfl⟩
      go_loopw [9, 23] (fun _ sj wr => ∃ j : Nat, j ≤ 8 ∧ sj = .int .i64 j ∧ Kept w s0 s1 s2 s3 s4 s5 s6 s7 (upd (sch0 bs i) i (beTo bs i j)) wr) (fun _ sj _ => 8 - (intOf sj).toNat)
      case atStart => exact ⟨0, by omega, rfl, hKr.out.congr fun j hj => by unfold upd sch0; by_cases h : j = i <;> simp [h, beTo]⟩
      case round =>
        obtain ⟨j, hj, rfl, hKj⟩ := hrel
        have c1 : wr.cell? ⟨w.heap.size + 1 + 1, i, none⟩ = some (U (beTo bs i j)) := cell_of hKj.hw (by rw [arr80_get _ (by omega)]; simp [upd])
        have f1 : wr.frozen? ⟨w.heap.size + 1 + 1, i, none⟩ = false := free_of hKj.hw
        have hKj := Lib.hid hKj
        by_cases hlt2 : j < 8
        · have c2 : wr.cell? ⟨bb, bo + (8 * i + j), none⟩ = some (B8 (bs.getD (8 * i + j) 0)) := cell_on hKj.out.bel (hB.out (8 * i + j) (by omega))
          have hs := Lib.hid (beTo_succ bs i j)
          generalize bs.getD (8 * i + j) 0 = x at c2 hs
          have a1 : (8 * (i : Int) + (j : Int)) < 128 := by omega
          go_wp2
          go_region
          go_wp2
          go_roundw
          case rel =>
            refine ⟨j + 1, by omega, by go_num, ?_⟩
            exact ((hKj.out.set i ((beTo bs i j <<< 8) ||| x.toUInt64)).drew).congr fun k _ => by unfold upd; rw [hs.out]; split <;> rfl
          case measure => simp [intOf]; omega
        · have : j = 8 := by omega
          subst this
          go_wp2
          go_roundw
          case rel =>
            refine ⟨i + 1, by omega, by go_num, hKj.out.congr fun k _ => ?_⟩
            unfold upd sch0
            by_cases h : k = i
            · simp [h]
            · rw [if_neg h]; by_cases h2 : k < i
              · rw [if_pos h2, if_pos (by omega)]
              · rw [if_neg h2, if_neg (by omega)]
          case measure => simp [intOf]; omega
    · have : i = 16 := by omega
      subst this
      have e16 : ((16 : Nat) : Int) = 16 := rfl
      rw [e16]
      go_wp2
      obtain ⟨wo, rfl⟩ : ∃ wo : World, wo = wr := ⟨_, rfl⟩
      clear hi hlt e1 hB
      go_loopw [10, 11, 12] (fun si _ _ wr => ∃ n : Nat, n ≤ 64 ∧ si = .int .i64 (n + 16) ∧ Kept w s0 s1 s2 s3 s4 s5 s6 s7 (sched bs n) wr) (fun si _ _ _ => 80 - (intOf si).toNat)
      case atStart => exact ⟨0, by omega, by simp, hKr.out⟩
      case round =>
        skip
        obtain ⟨n, hn, rfl, hKn⟩ := hrel
        by_cases hlt : n < 64
        · have x0 : wr.cell? ⟨w.heap.size + 1 + 1, n, none⟩ = some (U (sched bs n n)) := cell_of hKn.hw (arr80_get _ (by omega))
          have x1 : wr.cell? ⟨w.heap.size + 1 + 1, n + 1, none⟩ = some (U (sched bs n (n + 1))) := cell_of hKn.hw (arr80_get _ (by omega))
          have x9 : wr.cell? ⟨w.heap.size + 1 + 1, n + 9, none⟩ = some (U (sched bs n (n + 9))) := cell_of hKn.hw (arr80_get _ (by omega))
          have x14 : wr.cell? ⟨w.heap.size + 1 + 1, n + 14, none⟩ = some (U (sched bs n (n + 14))) := cell_of hKn.hw (arr80_get _ (by omega))
          have f1 : wr.frozen? ⟨w.heap.size + 1 + 1, n + 16, none⟩ = false := free_of hKn.hw
          have hKn := Lib.hid hKn
          have q1 : wrap64 ((n : Int) + 16 - 15) = ((n + 1 : Nat) : Int) := by rw [IntWalk.wrap64_in _ ⟨by omega, by omega⟩]; omega
          have q2 : wrap64 ((n : Int) + 16 - 2) = ((n + 14 : Nat) : Int) := by rw [IntWalk.wrap64_in _ ⟨by omega, by omega⟩]; omega
          have q3 : wrap64 ((n : Int) + 16 - 16) = (n : Int) := by rw [IntWalk.wrap64_in _ ⟨by omega, by omega⟩]; omega
          have q4 : wrap64 ((n : Int) + 16 - 7) = ((n + 9 : Nat) : Int) := by rw [IntWalk.wrap64_in _ ⟨by omega, by omega⟩]; omega
          have p7 : ∀ x : UInt64, nv x / 128 = nv (x >>> UInt64.ofNat 7) := fun x => u64_shr x 7 128 (by omega) (by rfl)
          have p6 : ∀ x : UInt64, nv x / 64 = nv (x >>> UInt64.ofNat 6) := fun x => u64_shr x 6 64 (by omega) (by rfl)
          have px := u64_xor
          have pa := u64_add
          go_wp2
          go_quiet (fail)
          go_wp2
          obtain ⟨wn, hwn⟩ : ∃ wn, wn = wr.drewN nq := ⟨_, rfl⟩
          have y0 : wn.cell? ⟨w.heap.size + 1 + 1, n, none⟩ = some (U (sched bs n n)) := by rw [hwn]; exact x0
          have y16 : wn.cell? ⟨w.heap.size + 1 + 1, n + 16, none⟩ = some (U (sched bs n (n + 16))) := by rw [hwn]; exact cell_of hKn.out.hw (arr80_get _ (by omega))
          have y9 : wn.cell? ⟨w.heap.size + 1 + 1, n + 9, none⟩ = some (U (sched bs n (n + 9))) := by rw [hwn]; exact x9
          have g1 : wn.frozen? ⟨w.heap.size + 1 + 1, n + 16, none⟩ = false := by rw [hwn]; exact f1
          have hKw := Lib.hid (show Kept w s0 s1 s2 s3 s4 s5 s6 s7 (sched bs n) wn by rw [hwn]; exact hKn.out.drewN nq)
          rw [← hwn]
          clear x0 x1 x9 x14 f1 hwn hKn q1 q2
          have hs := Lib.hid (sched_succ bs n)
          generalize sched bs n (n + 1) = X1 at hs ⊢
          generalize sched bs n (n + 14) = X2 at hs ⊢
          have q5 : IntKind.i64.wrap (n : Int) = n := IntWalk.i64_in _ ⟨by omega, by omega⟩
          have q9 : IntKind.i64.wrap ((n : Int) + 16 - 7) = ((n + 9 : Nat) : Int) := by rw [IntWalk.i64_left]; exact q4
          have r1 : (0 : Int) ≤ (n : Int) + 9 := by omega
          have r2 : (0 : Int) ≤ (n : Int) + 16 := by omega
          have r3 : ((n : Int) + 9).toNat = n + 9 := by omega
          have r4 : ((n : Int) + 16).toNat = n + 16 := by omega
          have q6 : (n : Int) < 80 := by omega
          have q7 : (n : Int) + 9 < 80 := by omega
          have q8 : (n : Int) + 16 < 80 := by omega
          clear q3
          go_still_tail 29, (by kernel_rfl)
          still_call (ror_st 1 (by simp) _ _)
          repeat still_step
          still_call (ror_st 8 (by simp) _ _)
          repeat still_step
          still_call (ror_st 19 (by simp) _ _)
          repeat still_step
          still_call (ror_st 61 (by simp) _ _)
          repeat still_step
          refine wpStill_nil ?_
          change wpList _ _ _ _ _ wn.drew
          go_wp2
          go_roundw
          case rel =>
            refine ⟨n + 1, by omega, by go_num, ?_⟩
            rw [hs.out]
            exact ((hKw.out.set (n + 16) _).drew)
          case measure => simp [intOf]; omega
        · have : n = 64 := by omega
          subst this
          have e80 : ((64 : Nat) : Int) + 16 = 80 := rfl
          rw [e80]
          have z : ∀ j : Nat, ∀ v, #[U s0, U s1, U s2, U s3, U s4, U s5, U s6, U s7][j]? = some v → wr.cell? ⟨w.heap.size, j, none⟩ = some v := fun j v h => cell_of hKn.hs h
          have z0 := z 0 _ rfl
          have z1 := z 1 _ rfl
          have z2 := z 2 _ rfl
          have z3 := z 3 _ rfl
          have z4 := z 4 _ rfl
          have z5 := z 5 _ rfl
          have z6 := z 6 _ rfl
          have z7 := z 7 _ rfl
          clear z
          go_wp2
          have hT : (wr.alloc (Obj.cells #[U s0, U s1, U s2, U s3, U s4, U s5, U s6, U s7] 155)).heap[wr.heap.size]? = some (.cells (rounds ⟨s0, s1, s2, s3, s4, s5, s6, s7⟩ bs 0).vals 155 (0, 0)) := heap_alloc_new wr _
          have hKt : Kept w s0 s1 s2 s3 s4 s5 s6 s7 (sched bs 64) (wr.alloc (Obj.cells #[U s0, U s1, U s2, U s3, U s4, U s5, U s6, U s7] 155)) := by
            have h0 := heap_lt hKn.hw
            exact ⟨by rw [Below.heap_alloc _ _ _ (by omega)]; exact hKn.hs, by rw [Below.heap_alloc _ _ _ (by omega)]; exact hKn.hr, by rw [Below.heap_alloc _ _ _ (by omega)]; exact hKn.hw, hKn.bel.alloc (by omega) _⟩
          have hTn : w.heap.size + 1 + 1 < wr.heap.size := heap_lt hKn.hw
          clear z0 z1 z2 z3 z4 z5 z6 z7
          generalize wr.heap.size = T at hT hTn ⊢
          generalize (wr.alloc (Obj.cells #[U s0, U s1, U s2, U s3, U s4, U s5, U s6, U s7] 155)) = wt at hT hKt ⊢
          go_loopw [85, 14, 15, 16, 17, 18] (fun si _ _ _ _ _ wr => ∃ i : Nat, i ≤ 80 ∧ si = .int .i64 i ∧ wr.heap[T]? = some (.cells (rounds ⟨s0, s1, s2, s3, s4, s5, s6, s7⟩ bs i).vals 155 (0, 0)) ∧ Kept w s0 s1 s2 s3 s4 s5 s6 s7 (sched bs 64) wr) (fun si _ _ _ _ _ _ => 80 - (intOf si).toNat)
          case atStart => exact ⟨0, by omega, by simp, hT, hKt⟩
          case round =>
            clear hKt hT
            obtain ⟨i, hi, rfl, hTr, hKr4⟩ := hrel
            by_cases hlt : i < 80
            · have hs := Lib.hid (show rounds ⟨s0, s1, s2, s3, s4, s5, s6, s7⟩ bs (i + 1) = (rounds ⟨s0, s1, s2, s3, s4, s5, s6, s7⟩ bs i).rnd (kW.getD i 0) (sched bs 64 i) from rfl)
              have ck : wr.cell? ⟨kb, i, none⟩ = some (U (kW.getD i 0)) := cell_on hKr4.bel (hK.out i hlt)
              have cw : wr.cell? ⟨w.heap.size + 1 + 1, i, none⟩ = some (U (sched bs 64 i)) := cell_of hKr4.hw (arr80_get _ hlt)
              generalize rounds ⟨s0, s1, s2, s3, s4, s5, s6, s7⟩ bs i = t at hs hTr
              generalize kW.getD i 0 = kk at hs ck
              generalize sched bs 64 i = ww at hs cw
              have z : ∀ j : Nat, ∀ v, t.vals[j]? = some v → wr.cell? ⟨T, j, none⟩ = some v := fun j v h => cell_of hTr h
              have z0 := z 0 _ rfl
              have z1 := z 1 _ rfl
              have z2 := z 2 _ rfl
              have z3 := z 3 _ rfl
              have z4 := z 4 _ rfl
              have z5 := z 5 _ rfl
              have z6 := z 6 _ rfl
              have z7 := z 7 _ rfl
              have hTr := Lib.hid hTr
              have hKr4 := Lib.hid hKr4
              have px := u64_xor
              have pa := u64_add
              have pn := u64_and
              clear z e2 e3
              go_wp2
              go_quiet (fail)
              go_wp2
              obtain ⟨wn, hwn⟩ : ∃ wn, wn = wr.drewN nq := ⟨_, rfl⟩
              have ck := show wn.cell? ⟨kb, i, none⟩ = some (U kk) by rw [hwn]; exact ck
              have cw := show wn.cell? ⟨w.heap.size + 1 + 1, i, none⟩ = some (U ww) by rw [hwn]; exact cw
              have z1 := show wn.cell? ⟨T, 1, none⟩ = some (U t.b) by rw [hwn]; exact z1
              have z2 := show wn.cell? ⟨T, 2, none⟩ = some (U t.c) by rw [hwn]; exact z2
              have z5 := show wn.cell? ⟨T, 5, none⟩ = some (U t.f) by rw [hwn]; exact z5
              have z6 := show wn.cell? ⟨T, 6, none⟩ = some (U t.g) by rw [hwn]; exact z6
              have z7 := show wn.cell? ⟨T, 7, none⟩ = some (U t.h) by rw [hwn]; exact z7
              have hKw := Lib.hid (show Kept w s0 s1 s2 s3 s4 s5 s6 s7 (sched bs 64) wn by rw [hwn]; exact hKr4.out.drewN nq)
              have hTw := Lib.hid (show wn.heap[T]? = some (.cells t.vals 155 (0, 0)) by rw [hwn]; exact hTr.out)
              rw [← hwn]
              clear hwn hKr4 hTr
              have qi : (i : Int) < 80 := by omega
              have qj : (0 : Int) ≤ (i : Int) := by omega
              have pq := u64_not
              refine wp_region_quiet_lit (by kernel_rfl) (by kernel_rfl) ?_
              repeat (go_big_quiet_step (fail))
              go_big_quiet_step (with_reducible exact quiet_left (ror_14 _ _))
              repeat (go_big_quiet_step (fail))
              go_big_quiet_step (with_reducible exact quiet_left (ror_18 _ _))
              repeat (go_big_quiet_step (fail))
              go_big_quiet_step (with_reducible exact quiet_left (ror_41 _ _))
              repeat (go_big_quiet_step (fail))
              refine wpQuiet_nil ?_
              intro _ hw'
              obtain ⟨n2, hw'⟩ := hw'
              subst hw'
              go_wp2
              obtain ⟨wm, hwm⟩ : ∃ wm, wm = wn.drewN n2 := ⟨_, rfl⟩
              have z0 := show wm.cell? ⟨T, 0, none⟩ = some (U t.a) by rw [hwm]; exact cell_of hTw.out rfl
              have z1 := show wm.cell? ⟨T, 1, none⟩ = some (U t.b) by rw [hwm]; exact z1
              have z2 := show wm.cell? ⟨T, 2, none⟩ = some (U t.c) by rw [hwm]; exact z2
              have z3 := show wm.cell? ⟨T, 3, none⟩ = some (U t.d) by rw [hwm]; exact cell_of hTw.out rfl
              have z4 := show wm.cell? ⟨T, 4, none⟩ = some (U t.e) by rw [hwm]; exact cell_of hTw.out rfl
              have z5 := show wm.cell? ⟨T, 5, none⟩ = some (U t.f) by rw [hwm]; exact z5
              have z6 := show wm.cell? ⟨T, 6, none⟩ = some (U t.g) by rw [hwm]; exact z6
              have z7 := show wm.cell? ⟨T, 7, none⟩ = some (U t.h) by rw [hwm]; exact z7
              have hKm := Lib.hid (show Kept w s0 s1 s2 s3 s4 s5 s6 s7 (sched bs 64) wm by rw [hwm]; exact hKw.out.drewN n2)
              have hTm := Lib.hid (show wm.heap[T]? = some (.cells t.vals 155 (0, 0)) by rw [hwm]; exact hTw.out)
              rw [← hwm]
              clear hwm hKw hTw ck cw
              have hfz : ∀ o, wm.frozen? ⟨T, o, none⟩ = false := fun o => free_of hTm.out
              refine wp_region_quiet_lit (by kernel_rfl) (by kernel_rfl) ?_
              repeat (go_big_quiet_step (fail))
              go_big_quiet_step (with_reducible exact quiet_left (ror_28 _ _))
              repeat (go_big_quiet_step (fail))
              go_big_quiet_step (with_reducible exact quiet_left (ror_34 _ _))
              repeat (go_big_quiet_step (fail))
              go_big_quiet_step (with_reducible exact quiet_left (ror_39 _ _))
              repeat (go_big_quiet_step (fail))
              refine wpQuiet_nil ?_
              intro _ hw'
              obtain ⟨n3, hw'⟩ := hw'
              subst hw'
              go_wp2
              have hK2 := fun b0 b1 b2 b3 b4 b5 b6 b7 => Lib.hid ((hKm.out.drewN n3).far8 hTn b0 b1 b2 b3 b4 b5 b6 b7)
              have hT2 := fun b0 b1 b2 b3 b4 b5 b6 b7 => Lib.hid (eight (W := wm.drewN n3) hTm.out b0 b1 b2 b3 b4 b5 b6 b7)
              go_roundw
              case rel =>
                refine ⟨i + 1, by omega, by go_num, ?_, (hK2 _ _ _ _ _ _ _ _).out⟩
                rw [hs.out]
                exact (hT2 _ _ _ _ _ _ _ _).out
              case measure => simp [intOf]; omega
            · have : i = 80 := by omega
              subst this
              have e80 : ((80 : Nat) : Int) = 80 := rfl
              rw [e80]
              go_wp2
              obtain ⟨wo, rfl⟩ : ∃ wo : World, wo = wr := ⟨_, rfl⟩
              go_loopw [19, 169] (fun _ si wr => ∃ i : Nat, i ≤ 8 ∧ si = .int .i64 i ∧ wr.heap[w.heap.size]? = some (.cells (addTo ⟨s0, s1, s2, s3, s4, s5, s6, s7⟩ (rounds ⟨s0, s1, s2, s3, s4, s5, s6, s7⟩ bs 80) i).vals 155 (0, 0)) ∧ wr.heap[T]? = some (.cells (rounds ⟨s0, s1, s2, s3, s4, s5, s6, s7⟩ bs 80).vals 155 (0, 0)) ∧ wr.heap[w.heap.size + 1]? = some (.cells #[Value.int IntKind.u64 0, Value.int IntKind.u64 0, Value.int IntKind.u64 0, Value.int IntKind.u64 0, Value.int IntKind.u64 0, Value.int IntKind.u64 0, Value.int IntKind.u64 0, Value.int IntKind.u64 0] 155 (0, 0)) ∧ Below w.heap.size w wr) (fun _ si _ => 8 - (intOf si).toNat)
              case atStart => exact ⟨0, by omega, by simp, hKr4.hs, hTr, hKr4.hr, hKr4.bel⟩
              case round =>
                clear hKr4 hTr
                obtain ⟨i, hi, rfl, hS, hR, hO, hB⟩ := hrel
                have hT0 : w.heap.size < T := by omega
                have hres := Lib.hid (show blockF ⟨s0, s1, s2, s3, s4, s5, s6, s7⟩ bs = addTo ⟨s0, s1, s2, s3, s4, s5, s6, s7⟩ (rounds ⟨s0, s1, s2, s3, s4, s5, s6, s7⟩ bs 80) 8 from rfl)
                generalize rounds ⟨s0, s1, s2, s3, s4, s5, s6, s7⟩ bs 80 = R at hS hR hres
                have hB := Lib.hid hB
                by_cases hlt : i < 8
                · have d1 : wr.cell? ⟨w.heap.size, i, none⟩ = some (U (St.get ⟨s0, s1, s2, s3, s4, s5, s6, s7⟩ i)) := by
                    rw [← addTo_get _ R hlt]; exact cell_of hS (vals_get _ hlt)
                  have d2 : wr.cell? ⟨T, i, none⟩ = some (U (R.get i)) := cell_of hR (vals_get _ hlt)
                  have d3 : wr.frozen? ⟨w.heap.size, i, none⟩ = false := free_of hS
                  have hset := Lib.hid (addTo_set ⟨s0, s1, s2, s3, s4, s5, s6, s7⟩ R hlt)
                  have hS := Lib.hid hS
                  have hR := Lib.hid hR
                  have hO := Lib.hid hO
                  generalize St.get ⟨s0, s1, s2, s3, s4, s5, s6, s7⟩ i = x at d1 hset
                  generalize R.get i = y at d2 hset
                  have pa := u64_add
                  have k0 : (0 : Int) ≤ (i : Int) := by omega
                  have k8 : (i : Int) < 8 := by omega
                  go_wp2
                  go_still_tail 8, (by kernel_rfl)
                  change wpList _ _ _ _ _ wr.drew
                  go_wp2
                  have hB3 := Lib.hid ((hB.out.setCell (p := ⟨w.heap.size, i, none⟩) (Nat.le_refl _) (U (x + y))).drew)
                  have hS3 := Lib.hid (heap_set (o := i) hS.out (U (x + y)))
                  have hR3 := Lib.hid ((Below.heap_setCell wr ⟨w.heap.size, i, none⟩ (U (x + y)) T (by show T ≠ w.heap.size; omega)).trans hR.out)
                  have hO3 := Lib.hid ((Below.heap_setCell wr ⟨w.heap.size, i, none⟩ (U (x + y)) (w.heap.size + 1) (by show w.heap.size + 1 ≠ w.heap.size; omega)).trans hO.out)
                  go_roundw
                  case rel =>
                    refine ⟨i + 1, by omega, by go_num, ?_, hR3.out, hO3.out, hB3.out⟩
                    rw [← hset.out]
                    exact hS3.out
                  case measure => simp [intOf]; omega
                · have : i = 8 := by omega
                  subst this
                  have e8 : ((8 : Nat) : Int) = 8 := rfl
                  rw [e8]
                  rw [← hres.out] at hS
                  obtain ⟨F, hF⟩ : ∃ F, F = blockF ⟨s0, s1, s2, s3, s4, s5, s6, s7⟩ bs := ⟨_, rfl⟩
                  rw [← hF] at hS
                  have hF2 := Lib.hid hF
                  clear hF
                  have z0 : wr.cell? ⟨w.heap.size, 0, none⟩ = some (U F.a) := cell_of hS rfl
                  have z1 : wr.cell? ⟨w.heap.size, 1, none⟩ = some (U F.b) := cell_of hS rfl
                  have z2 : wr.cell? ⟨w.heap.size, 2, none⟩ = some (U F.c) := cell_of hS rfl
                  have z3 : wr.cell? ⟨w.heap.size, 3, none⟩ = some (U F.d) := cell_of hS rfl
                  have z4 : wr.cell? ⟨w.heap.size, 4, none⟩ = some (U F.e) := cell_of hS rfl
                  have z5 : wr.cell? ⟨w.heap.size, 5, none⟩ = some (U F.f) := cell_of hS rfl
                  have z6 : wr.cell? ⟨w.heap.size, 6, none⟩ = some (U F.g) := cell_of hS rfl
                  have z7 : wr.cell? ⟨w.heap.size, 7, none⟩ = some (U F.h) := cell_of hS rfl
                  have y0 : wr.cell? ⟨w.heap.size + 1, 0, none⟩ = some (.int .u64 0) := cell_of hO rfl
                  have y1 : wr.cell? ⟨w.heap.size + 1, 1, none⟩ = some (.int .u64 0) := cell_of hO rfl
                  have y2 : wr.cell? ⟨w.heap.size + 1, 2, none⟩ = some (.int .u64 0) := cell_of hO rfl
                  have y3 : wr.cell? ⟨w.heap.size + 1, 3, none⟩ = some (.int .u64 0) := cell_of hO rfl
                  have y4 : wr.cell? ⟨w.heap.size + 1, 4, none⟩ = some (.int .u64 0) := cell_of hO rfl
                  have y5 : wr.cell? ⟨w.heap.size + 1, 5, none⟩ = some (.int .u64 0) := cell_of hO rfl
                  have y6 : wr.cell? ⟨w.heap.size + 1, 6, none⟩ = some (.int .u64 0) := cell_of hO rfl
                  have y7 : wr.cell? ⟨w.heap.size + 1, 7, none⟩ = some (.int .u64 0) := cell_of hO rfl
                  have hfz : ∀ o, wr.frozen? ⟨w.heap.size + 1, o, none⟩ = false := fun o => free_of hO
                  have hend := fun b0 b1 b2 b3 b4 b5 b6 b7 => Lib.hid (eight hO b0 b1 b2 b3 b4 b5 b6 b7)
                  have hbel := fun b0 b1 b2 b3 b4 b5 b6 b7 => Lib.hid (below8 hB.out b0 b1 b2 b3 b4 b5 b6 b7)
                  clear hO hR hS hres
                  go_wp2
                  exact bodyPost_ret (results_cell_row rfl _ _ (w.heap.size + 1) 155 F.vals (0, 0) _ rfl (hend _ _ _ _ _ _ _ _).out Tryd.underlying155 rfl (by kernel_rfl)) rfl ⟨by rw [hF2.out], (hbel _ _ _ _ _ _ _ _).out⟩
end Go.Proofs.YtmnmmabhmedioaaDoor
