/- SHA-512: the hasher: made, New. -/
import Derived.Test.YtmnmmabhmedioaaDoorM4
import Derived.Test.YtmnmmabhmedioaaDoorM1
import Derived.Lib.AppendZeros
import Derived.Laws.MakeOwn
import Derived.Laws.CopyRow
import Derived.Laws.OwnMore
import Derived.Deep.AppendLies
import Derived.Laws.ShiftsVarLaws
import Derived.Deep.DeepCutAuto
namespace Go.Proofs.YtmnmmabhmedioaaDoor
open Go.RowKit
set_option linter.unusedVariables false
set_option linter.unusedSimpArgs false

def H0 : St := ⟨0x6a09e667f3bcc908, 0xbb67ae8584caa73b, 0x3c6ef372fe94f82b, 0xa54ff53a5f1d36f1, 0x510e527fade682d1, 0x9b05688c2b3e6c1f, 0x1f83d9abfb41bd6b, 0x5be0cd19137e2179⟩
theorem H0_vals : words hW = H0.vals := rfl

/-- A hasher in memory. -/
structure Hs (w : World) (h kb : Nat) (s : St) (tv : Value) (n : UInt64) : Prop where
  hh : w.heap[h]? = some (.cells #[U s.a, U s.b, U s.c, U s.d, U s.e, U s.f, U s.g, U s.h, tv, U n, .pointer (some ⟨kb, 0, none⟩)] 216 (0, 0))
  hk : w.heap[kb]? = some (.cells (words kW) 190 (0, 0))
  ne : h ≠ kb

theorem Hs.on {w w' : World} {h kb : Nat} {s : St} {tv : Value} {n : UInt64} (hb : Below w.heap.size w w') (H : Hs w h kb s tv n) : Hs w' h kb s tv n := ⟨heap_on hb H.hh, heap_on hb H.hk, H.ne⟩
theorem Hs.keep {D : Nat → Prop} {w w' : World} {h kb : Nat} {s : St} {tv : Value} {n : UInt64} (hb : Keep D w w') (h1 : ¬ D h) (h2 : ¬ D kb) (H : Hs w h kb s tv n) : Hs w' h kb s tv n := ⟨hb.heap h1 H.hh, hb.heap h2 H.hk, H.ne⟩
theorem Hs.kcell {w : World} {h kb : Nat} {s : St} {tv : Value} {n : UInt64} (H : Hs w h kb s tv n) : ∀ j, j < 80 → w.cell? ⟨kb, j, none⟩ = some (U (kW.getD j 0)) := fun j hj => cell_of H.hk (by
  have : j < kW.length := by simpa [kW] using hj
  simp [words, List.getD_eq_getElem?_getD, List.getElem?_eq_getElem this])


set_option maxRecDepth 100000 in
set_option maxHeartbeats 4000000 in
theorem made_any (w : World) (h kb : Nat) (s : St) (tv : Value) (n : UInt64) (H : Hs w h kb s tv n) :
    Calls Tryd.prog 100 #[.pointer (some ⟨h, 0, none⟩)] w fun e w' => e = .returned (.bool true) ∧ w = w' := by
  have c : w.cell? ⟨h, 10, none⟩ = some (.pointer (some ⟨kb, 0, none⟩)) := cell_of H.hh rfl
  clear H
  go_enter Tryd.func100, Tryd.ntmps100
  go_wp2
  go_ret
  exact ⟨rfl, rfl⟩

theorem begin_H0 (w : World) : Calls Tryd.prog 99 #[] w fun e w' => e = .returned (.agg H0.vals) ∧ Below w.heap.size w w' := begin_any w

set_option maxRecDepth 100000 in
set_option maxHeartbeats 4000000 in
theorem new_any (w : World) : Calls Tryd.prog 92 #[] w fun e w' => ∃ h kb, e = .returned (.pointer (some ⟨h, 0, none⟩)) ∧ w.heap.size ≤ h ∧ w.heap.size ≤ kb ∧ Hs w' h kb H0 (.slice none 0 0) 0 ∧ Below w.heap.size w w' := by
  go_enter Tryd.func92, Tryd.ntmps92
  go_wp2_with fail
  refine (consts_any _).mono ?_
  rintro e w1 ⟨rfl, b1⟩
  rename_i hK
  refine hK _ _ ?_
  refine wpList_value (w' := w1.alloc (Obj.cells Tryd.zeroCells190 190)) rfl (.pointer (some ⟨w1.heap.size, 0, none⟩)) (by kernel_rfl) ?_
  refine wpList_skips (w' := w1.alloc (Obj.cells (words kW) 190)) rfl ?_ ?_
  · have h := run_storeAt_new (P := Tryd.prog) w1 190 Tryd.zeroCells190 (words kW) (by kernel_rfl) (by kernel_rfl) (by kernel_rfl)
    show (Instr.storeAt 190 (.pointer (some ⟨w1.heap.size, 0, none⟩)) (.agg (words kW)) >>= fun _ => pure Next.skip : Sem Next).run Tryd.prog _ = _
    simp only [Sem.run_bind, h, Result.andThen, Sem.run_pure]
  refine wpList_nil ?_
  have hkb : (w1.alloc (Obj.cells (words kW) 190)).heap[w1.heap.size]? = some (.cells (words kW) 190 (0, 0)) := heap_alloc_new w1 _
  have hB : Below w.heap.size w (w1.alloc (Obj.cells (words kW) 190)) := b1.alloc b1.size _
  have hkb0 := b1.size
  have hkl := heap_lt hkb
  generalize (w1.alloc (Obj.cells (words kW) 190)) = wb at hkb hB hkl ⊢
  generalize w1.heap.size = kb at hkb hkb0 hkl ⊢
  have hkb := Lib.hid hkb
  clear hK b1
  simp only [Act.put]
  go_wp2_with fail
  refine (begin_H0 _).mono ?_
  rintro e w2 ⟨rfl, b2⟩
  have hs2 := b2.size
  have hH : Hs (w2.alloc (.cells #[U H0.a, U H0.b, U H0.c, U H0.d, U H0.e, U H0.f, U H0.g, U H0.h, .slice none 0 0, U 0, .pointer (some ⟨kb, 0, none⟩)] 216)) w2.heap.size kb H0 (.slice none 0 0) 0 :=
    ⟨heap_alloc_new w2 _, by rw [Below.heap_alloc _ _ _ (by omega)]; exact heap_on b2 hkb.out, by omega⟩
  have hH := Lib.hid hH
  have hB2 := fun o => Lib.hid (later hB (later b2 (boxed w2 o)))
  have hz := hB.size
  go_wp2
  go_ret
  exact ⟨w2.heap.size, kb, rfl, by omega, hkb0, hH.out, (hB2 _).out⟩
end Go.Proofs.YtmnmmabhmedioaaDoor
/- SHA-512: blocks of a text, pure. -/
namespace Go.Proofs.YtmnmmabhmedioaaDoor
open Go.RowKit
set_option linter.unusedVariables false
set_option linter.unusedSimpArgs false

/-- How many zeros; a number's bytes, the highest first; what is laid behind n bytes. -/
def padZ (n : Nat) : Nat := (239 - n % 128) % 128
def be8 (x : UInt64) (k : Nat) : List UInt8 := (List.range k).map fun j => (x >>> UInt64.ofNat (8 * (7 - j))).toUInt8
def padL (x : UInt64) : List UInt8 := 128 :: List.replicate (padZ x.toNat) 0 ++ List.replicate 8 0 ++ be8 (x * 8) 8
theorem be8_succ (x : UInt64) (k : Nat) : be8 x (k + 1) = be8 x k ++ [(x >>> UInt64.ofNat (8 * (7 - k))).toUInt8] := by simp [be8, List.range_succ]
theorem be8_length (x : UInt64) (k : Nat) : (be8 x k).length = k := by simp [be8]
theorem padL_length (x : UInt64) : (padL x).length = padZ x.toNat + 17 := by simp [padL, be8_length]
theorem padL_mod (x : UInt64) : (x.toNat + (padL x).length) % 128 = 0 := by rw [padL_length]; unfold padZ; omega

/-- The state behind the first blocks of a text. -/
def absN (s : St) (l : List UInt8) : Nat → St
  | 0 => s
  | k + 1 => blockF (absN s l k) ((l.drop (128 * k)).take 128)
theorem absN_append (s : St) (l x : List UInt8) (k : Nat) (h : 128 * k ≤ l.length) : absN s (l ++ x) k = absN s l k := by
  induction k with
  | zero => rfl
  | succ k ih =>
    simp only [absN]
    rw [ih (by omega), List.drop_append_of_le_length (by omega), List.take_append_of_le_length (by simp; omega)]
def stOf (M : List UInt8) : St := absN H0 M (M.length / 128)
def tailOf (M : List UInt8) : List UInt8 := M.drop (128 * (M.length / 128))
theorem tailOf_length (M : List UInt8) : (tailOf M).length = M.length % 128 := by simp [tailOf]; omega
theorem tailOf_lt (M : List UInt8) : (tailOf M).length < 128 := by rw [tailOf_length]; omega
theorem stOf_nil : stOf [] = H0 := rfl
theorem tailOf_nil : tailOf [] = [] := rfl
/-- Nothing full. -/
theorem feed_short {M l : List UInt8} (h : (tailOf M).length + l.length < 128) : stOf (M ++ l) = stOf M ∧ tailOf (M ++ l) = tailOf M ++ l := by
  have e : (M ++ l).length / 128 = M.length / 128 := by rw [tailOf_length] at h; simp; omega
  unfold stOf tailOf
  rw [e]
  exact ⟨absN_append _ _ _ _ (by omega), List.drop_append_of_le_length (by omega)⟩
/-- Whole blocks were taken. -/
theorem feed_even {M l : List UInt8} : stOf M = absN H0 (M ++ l) (M.length / 128) ∧ tailOf M ++ l = (M ++ l).drop (128 * (M.length / 128)) :=
  ⟨(absN_append _ _ _ _ (by omega)).symm, (List.drop_append_of_le_length (by omega)).symm⟩
/-- The tail is filled. -/
theorem feed_fill {M l : List UInt8} (k : Nat) (hk : (tailOf M).length + k = 128) (hl : k ≤ l.length) :
    blockF (stOf M) (tailOf M ++ l.take k) = absN H0 (M ++ l) (M.length / 128 + 1) ∧ l.drop k = (M ++ l).drop (128 * (M.length / 128 + 1)) := by
  have e := (feed_even (M := M) (l := l)).1
  have e2 := (feed_even (M := M) (l := l)).2
  generalize tailOf M = t at hk e2 ⊢
  constructor
  · simp only [absN]
    rw [← e, ← e2]
    have h : t ++ l.take k = (t ++ l).take 128 := by
      rw [List.take_append, List.take_of_length_le (show t.length ≤ 128 by omega), show 128 - t.length = k from by omega]
    rw [h]
  · have h : (M ++ l).drop (128 * (M.length / 128 + 1)) = (t ++ l).drop 128 := by
      rw [e2, List.drop_drop]
      congr 1
    rw [h, List.drop_append, List.drop_of_length_le (show t.length ≤ 128 by omega), List.nil_append]
    congr 1
    omega
theorem feed_step {M : List UInt8} (j : Nat) : blockF (absN H0 M j) ((M.drop (128 * j)).take 128) = absN H0 M (j + 1) ∧ (M.drop (128 * j)).drop 128 = M.drop (128 * (j + 1)) :=
  ⟨rfl, by rw [List.drop_drop, Nat.mul_add]⟩
theorem feed_end {M : List UInt8} {j : Nat} (h : 128 * j ≤ M.length) (h2 : (M.drop (128 * j)).length < 128) : absN H0 M j = stOf M ∧ M.drop (128 * j) = tailOf M := by
  have : j = M.length / 128 := by simp at h2; omega
  subst this
  exact ⟨rfl, rfl⟩
/-- The digest's bytes. -/
def digL (s : St) (k : Nat) : List UInt8 := (List.range k).map fun i => (s.get (i / 8) >>> UInt64.ofNat (56 - 8 * (i % 8))).toUInt8
theorem digL_length (s : St) (k : Nat) : (digL s k).length = k := by simp [digL]
/-- SHA-512. -/
def sha (M : List UInt8) : List UInt8 := digL (stOf (M ++ padL (UInt64.ofNat M.length))) 64
theorem sha_length (M : List UInt8) : (sha M).length = 64 := digL_length _ _
end Go.Proofs.YtmnmmabhmedioaaDoor
/- SHA-512: what is laid behind the bytes. -/
namespace Go.Proofs.YtmnmmabhmedioaaDoor
open Go.RowKit
set_option linter.unusedVariables false
set_option linter.unusedSimpArgs false

/-- append(out, make([]byte, m)...) where there is room. -/
theorem run_append_zeros_room {P : Program} (w : World) (t tn ty e : TypeId) (i : TypeInfo) (kn : IntKind) (ht : P.underlying t = some (.slice e)) (htn : P.underlying tn = some (.int kn)) (hi : P.info? e = some i) (hz : i.zero = some (.int .u8 0)) (hs : i.size = 1) (hb : i.bytes = 1)
    (g n c m : Nat) (cur : Array Value) (hg : w.heap[g]? = some (.cells cur e (0, 0))) (hc : n + m ≤ c) (hcc : c ≤ cur.size) (hm : 0 < m) (hm2 : m ≤ 1000) :
    (Builtin.append_ #[t, tn] ty #[.slice (some ⟨g, 0, none⟩) n c, .int kn m]).run P w =
      .ok (.slice (some ⟨g, 0, none⟩) (n + m) c) (w.setRow g (cur.toList.take n ++ List.replicate m (Value.int .u8 0) ++ cur.toList.drop (n + m)).toArray) := by
  have hw : IntKind.i64.wrap (m : Int) = m := by rw [IntKind.wrap_i64]; omega
  have hn : m ≠ 0 := by omega
  have hneg : ¬ ((m : Int) < 0) := by omega
  have h48 : ¬ (281474976710656 < (m : Int)) := by omega
  have hz2 : (Builtin.zeroCells (Value.cells (.int .u8 0)) m).toList = List.replicate m (Value.int .u8 0) := by
    have e : Builtin.zeroCells (Value.cells (.int .u8 0)) m = madeCells #[.int .u8 0] m := by
      simp [Builtin.zeroCells, madeCells, Value.cells]
    rw [e, toList_madeCells_one]
  have hst := run_storeCells_at P g n e (List.replicate m (.int .u8 0)) 0 cur w hg (by simp; omega) (by intro v hv; rw [List.eq_of_mem_replicate hv]; rfl)
  simp [Builtin.append_, run_underlying ht, run_underlying htn, sizeOf, typeInfo, zeroValue, hi, hz, hs, hb, asInt, asIntOf, hw, hn, hneg, h48, hc, Addr.add]
  rw [show (if n = 0 then (⟨g, 0, none⟩ : Addr) else ⟨g, n, none⟩) = ⟨g, n, none⟩ from by split <;> simp_all, hz2, hst]
  simp
theorem append_zeros_own {P : Program} (w : World) (base t tn ty e : Nat) (i : TypeInfo) (kn : IntKind) (ht : P.underlying t = some (.slice e)) (htn : P.underlying tn = some (.int kn)) (hi : P.info? e = some i) (hz : i.zero = some (.int .u8 0)) (hs : i.size = 1) (hb : i.bytes = 1)
    (g n c m : Nat) (xs : List Value) (h : w.ownsRow base e 1 (.slice (some ⟨g, 0, none⟩) n c) n xs) (hc : n + m ≤ c) (hm : 0 < m) (hm2 : m ≤ 1000) :
    ∃ w', (Builtin.append_ #[t, tn] ty #[.slice (some ⟨g, 0, none⟩) n c, .int kn m]).run P w = .ok (.slice (some ⟨g, 0, none⟩) (n + m) c) w' ∧
      w'.ownsRow base e 1 (.slice (some ⟨g, 0, none⟩) (n + m) c) (n + m) (xs ++ List.replicate m (Value.int .u8 0)) ∧ w.grownBy w' (some g) := by
  obtain ⟨hl, h0 | ⟨g', c', cur, hv, hb', hg, h1, h2, h3, h4⟩⟩ := h
  · cases h0.1
  cases hv
  refine ⟨_, run_append_zeros_room w t tn ty e i kn ht htn hi hz hs hb g n c m cur hg hc (by omega) hm hm2, ?_, ?_⟩
  · refine ⟨by simp; omega, .inr ⟨g, c, _, rfl, hb', setRow_heap w g cur _ e _ hg, hc, h2, ?_, ?_⟩⟩
    · simp; omega
    · simp only [Nat.mul_one] at h4 ⊢
      rw [h4]
      have hx : (xs ++ List.replicate m (Value.int .u8 0)).length = n + m := by simp; omega
      exact List.take_left' hx
  · exact ⟨rfl, rfl, rfl, by simp, fun k hk hne => setRow_other w g k _ (fun e => hne (by rw [e]))⟩

theorem bs_zero (m : Nat) : List.replicate m (Value.int .u8 0) = (List.replicate m (0 : UInt8)).map B8 := by rw [List.map_replicate]; rfl

theorem u64_shr_pow (x : UInt64) (n : Nat) (hn : n < 64) : nv x / 2 ^ n = nv (x >>> UInt64.ofNat n) := by
  have h := u64_shr x n (2 ^ n) hn rfl
  rw [Int.natCast_pow] at h
  exact h

/-- The padding is in a row of its own. -/
def Padded (w : World) (x : UInt64) (v : Value) (w' : World) : Prop := ∃ A c, v = .slice A (padL x).length c ∧ OwnB w' w.heap.size A c (padL x) ∧ Below w.heap.size w w'

set_option maxRecDepth 100000 in
set_option maxHeartbeats 4000000 in
theorem pad_any (x : UInt64) (w : World) :
    Calls Tryd.prog 102 #[U x] w fun e w' => ∃ v, e = .returned v ∧ Padded w x v w' := by
  obtain ⟨b0, b1⟩ := nv_bd x
  have hn : nv x = (x.toNat : Int) := rfl
  obtain ⟨i0, hi0, hz0, hz1, hz2⟩ := info_parts inf5
  have hmk : ∀ w : World, (Instr.makeSlice 22 (.int .u64 (1 + (239 - nv x) % 128)) (.int .i64 256)).run Tryd.prog w = .ok (.slice (some ⟨w.heap.size, 0, none⟩) (1 + padZ x.toNat) 256) (w.alloc (.cells (madeCells #[.int .u8 0] 256) 5)) := fun w => by
    have h := run_make (P := Tryd.prog) w 22 5 i0 (.int .u8 0) Tryd.underlying22 hi0 hz0 .u64 .i64 (1 + (239 - nv x) % 128) 256 (by omega) (by omega) (by rw [hz2]; omega) (by omega)
    rw [hz1] at h
    rw [h]
    have e1 : (1 + (239 - nv x) % 128).toNat = 1 + padZ x.toNat := by rw [hn]; unfold padZ; omega
    rw [e1]
    rfl
  have hx8 : IntKind.u64.wrap (nv x * 8) = nv (x * 8) := u64_mul x 8
  have hz : padZ x.toNat < 128 := by unfold padZ; omega
  clear hn
  have hsz : (madeCells #[Value.int .u8 0] 256).size = 256 := size_madeCells _ _
  have hown1 : (w.alloc (.cells ((madeCells #[.int .u8 0] 256).setIfInBounds 0 (.int .u8 128)) 5)).ownsRow w.heap.size 5 1 (.slice (some ⟨w.heap.size, 0, none⟩) (1 + padZ x.toNat) 256) (1 + padZ x.toNat) ((128 :: List.replicate (padZ x.toNat) (0 : UInt8)).map B8) := by
    refine ⟨by simp; omega, .inr ⟨w.heap.size, 256, _, rfl, Nat.le_refl _, heap_alloc_new w _, by omega, by decide, by simp [hsz], ?_⟩⟩
    rw [Array.toList_setIfInBounds, toList_madeCells_one, show (256 : Nat) = 255 + 1 from rfl, List.replicate_succ, List.set_cons_zero, Nat.mul_one, Nat.add_comm 1, List.take_succ_cons, List.take_replicate, List.map_cons, List.map_replicate, show min (padZ x.toNat) 255 = padZ x.toNat from by omega]
    rfl
  have hc0 : (w.alloc (.cells (madeCells #[.int .u8 0] 256) 5)).cell? ⟨w.heap.size, 0, none⟩ = some (.int .u8 0) := by
    refine cell_of (heap_alloc_new w _) ?_
    rw [← Array.getElem?_toList, toList_madeCells_one]
    rfl
  have hf0 : (w.alloc (.cells (madeCells #[.int .u8 0] 256) 5)).frozen? ⟨w.heap.size, 0, none⟩ = false := free_of (heap_alloc_new w _)
  generalize hM : madeCells #[.int .u8 0] 256 = M at hmk hc0 hf0 hown1
  clear hM hsz
  generalize hZ : padZ x.toNat = Z at hmk hz hown1
  have hZ2 := Lib.hid hZ
  clear hZ
  have hmk2 := Lib.hid hmk
  have i0' : (0 : Int) < 1 + (Z : Int) := by omega
  obtain ⟨w3, hr3, ho3, hg3⟩ := append_zeros_own (P := Tryd.prog) (w.alloc (.cells (M.setIfInBounds 0 (.int .u8 128)) 5)) w.heap.size 22 3 22 5 i0 .i64 Tryd.underlying22 Tryd.underlying3 hi0 hz0 hz1 hz2 w.heap.size (1 + Z) 256 8 _ hown1 (by omega) (by omega) (by omega)
  have hB3' : Below w.heap.size w w3 := (boxed w _).grown hg3 (by simp) (fun k hk => by simp at hk; omega)
  have ho3' : OwnB w3 w.heap.size (some ⟨w.heap.size, 0, none⟩) 256 (128 :: List.replicate Z 0 ++ List.replicate 8 0) := by
    unfold OwnB
    rw [List.map_append, ← bs_zero 8]
    simpa [Nat.add_comm, Nat.add_left_comm] using ho3
  have hB4 := Lib.hid hB3'
  have ho4 := Lib.hid ho3'
  have hr4 := Lib.hid (show (Builtin.append_ #[22, 3] 22 #[.slice (some ⟨w.heap.size, 0, none⟩) (1 + Z) 256, .int .i64 8]).run Tryd.prog (w.alloc (.cells (M.setIfInBounds 0 (.int .u8 128)) 5)) = .ok (.slice (some ⟨w.heap.size, 0, none⟩) (1 + Z + 8) 256) w3 from hr3)
  clear hown1 hg3 hr3 ho3 ho3' hB3' hmk2
  go_enter Tryd.func102, Tryd.ntmps102
  go_upto_region 2 with fail
  go_wp2_with (at_builtin; go_must (refine Lib.wpList_append_run _ rfl _ _ _ _ rfl _ _ rfl rfl _ _ hr4.out ?_))
  go_loopw [3, 4] (fun so si wr => ∃ k : Nat, k ≤ 8 ∧ si = .int .i64 (7 - (k : Int)) ∧ ∃ A c, so = .slice A (1 + Z + 8 + k) c ∧ OwnB wr w.heap.size A c (128 :: List.replicate Z 0 ++ List.replicate 8 0 ++ be8 (x * 8) k) ∧ Below w.heap.size w wr) (fun _ si _ => (intOf si + 1).toNat)
  case atStart => exact ⟨0, by omega, rfl, _, _, rfl, by simpa [be8] using ho4.out, hB4.out⟩
  case round =>
    clear ho4 hB4 hr4
    obtain ⟨k, hk, rfl, A, c, rfl, hO, hB⟩ := hrel
    by_cases hlt : k < 8
    · have hs := Lib.hid (be8_succ (x * 8) k)
      have hsh : nv (x * 8) / 2 ^ (8 * (7 - k)) = nv ((x * 8) >>> UInt64.ofNat (8 * (7 - k))) := u64_shr_pow _ _ (by omega)
      have h8 := u8_of64 ((x * 8) >>> UInt64.ofNat (8 * (7 - k)))
      rw [IntKind.wrap_u8] at h8
      generalize (x * 8) >>> UInt64.ofNat (8 * (7 - k)) = y at hs hsh h8
      have g0 : (0 : Int) ≤ 7 - (k : Int) := by omega
      have hB1 := Lib.hid hB
      have hO1 := Lib.hid hO
      clear hO hB
      clear hmk hc0 hf0 i0' b0 b1
      go_upto_region 7 with fail
      go_wp2_with (at_builtin; go_must (refine wpList_append_bs _ rfl _ _ 22 rfl w.heap.size i0 Tryd.underlying22 hi0 hz0 hz1 hz2 A (1 + Z + 8 + k) c _ ?q1 rfl (hO1.out.on (boxed _ _)) (some ⟨wr.heap.size, 0, none⟩) 1 1 [y.toUInt8] rfl rfl ?q2 ?q3 ?q4 ?_))
      case q1 => simp [be8_length]; omega
      case q2 => exact Bs.one _ _ _
      case q3 => simp [be8_length]; omega
      case q4 => have := hB1.out.size; simp; omega
      intro A2 c2 w4 hO2 hg2 hat2
      have hB2 := Lib.hid (below_grew (later hB1.out (boxed _ _)) (hO1.out.on (boxed _ _)) (Nat.le_refl _) (by have := hB1.out.size; simp; omega) hg2)
      have hO2 := Lib.hid hO2
      clear hg2 hat2
      go_wp2
      go_roundw
      case rel =>
        refine ⟨k + 1, by omega, by go_num, A2, c2, rfl, ?_, hB2.out⟩
        have h := hO2.out
        rw [hs.out]
        simpa using h
      case measure => simp [intOf]; omega
    · have : k = 8 := by omega
      subst this
      have e8 : (7 : Int) - ((8 : Nat) : Int) = -1 := rfl
      rw [e8]
      have hO1 := Lib.hid hO
      have hB1 := Lib.hid hB
      have hz2 := Lib.hid hz
      clear hO hB hmk hc0 hf0 hz i0' b0 b1
      go_wp2
      go_ret
      refine ⟨_, rfl, A, c, ?_, ?_, hB1.out⟩
      · rw [padL_length, hZ2.out]
        exact congrArg (fun n => Value.slice A n c) (by omega)
      · rw [padL, hZ2.out]
        exact hO1.out
end Go.Proofs.YtmnmmabhmedioaaDoor
/- SHA-512: Write. -/
namespace Go.Proofs.YtmnmmabhmedioaaDoor
open Go.RowKit
set_option linter.unusedVariables false
set_option linter.unusedSimpArgs false

/-- The eight words are written. -/
abbrev W8 (w : World) (h : Nat) (t : St) : World := (((((((w.setCell ⟨h, 0, none⟩ (U t.a)).setCell ⟨h, 1, none⟩ (U t.b)).setCell ⟨h, 2, none⟩ (U t.c)).setCell ⟨h, 3, none⟩ (U t.d)).setCell ⟨h, 4, none⟩ (U t.e)).setCell ⟨h, 5, none⟩ (U t.f)).setCell ⟨h, 6, none⟩ (U t.g)).setCell ⟨h, 7, none⟩ (U t.h)
theorem W8.keep (w : World) (h : Nat) (t : St) : Keep (fun k => k = h) w (W8 w h t) :=
  have k : ∀ (w : World) (o : Nat) (v : Value), Keep (fun k => k = h) w (w.setCell ⟨h, o, none⟩ v) := fun w o v => Keep.set (fun k => k = h) h o v rfl
  (((((((k _ 0 _).trans (k _ 1 _)).trans (k _ 2 _)).trans (k _ 3 _)).trans (k _ 4 _)).trans (k _ 5 _)).trans (k _ 6 _)).trans (k _ 7 _)
theorem eleven {W : World} {T : Nat} {a0 a1 a2 a3 a4 a5 a6 a7 a8 a9 aa : Value} {ty : TypeId} (h : W.heap[T]? = some (.cells #[a0, a1, a2, a3, a4, a5, a6, a7, a8, a9, aa] ty (0, 0))) (b0 b1 b2 b3 b4 b5 b6 b7 : Value) :
    ((((((((W.setCell ⟨T, 0, none⟩ b0).setCell ⟨T, 1, none⟩ b1).setCell ⟨T, 2, none⟩ b2).setCell ⟨T, 3, none⟩ b3).setCell ⟨T, 4, none⟩ b4).setCell ⟨T, 5, none⟩ b5).setCell ⟨T, 6, none⟩ b6).setCell ⟨T, 7, none⟩ b7).heap[T]? = some (.cells #[b0, b1, b2, b3, b4, b5, b6, b7, a8, a9, aa] ty (0, 0)) := by
  have h0 : (W.setCell ⟨T, 0, none⟩ b0).heap[T]? = some (.cells #[b0, a1, a2, a3, a4, a5, a6, a7, a8, a9, aa] ty (0, 0)) := heap_set h b0
  generalize W.setCell ⟨T, 0, none⟩ b0 = W at h0 ⊢
  have h1 : (W.setCell ⟨T, 1, none⟩ b1).heap[T]? = some (.cells #[b0, b1, a2, a3, a4, a5, a6, a7, a8, a9, aa] ty (0, 0)) := heap_set h0 b1
  generalize W.setCell ⟨T, 1, none⟩ b1 = W at h1 ⊢
  have h2 : (W.setCell ⟨T, 2, none⟩ b2).heap[T]? = some (.cells #[b0, b1, b2, a3, a4, a5, a6, a7, a8, a9, aa] ty (0, 0)) := heap_set h1 b2
  generalize W.setCell ⟨T, 2, none⟩ b2 = W at h2 ⊢
  have h3 : (W.setCell ⟨T, 3, none⟩ b3).heap[T]? = some (.cells #[b0, b1, b2, b3, a4, a5, a6, a7, a8, a9, aa] ty (0, 0)) := heap_set h2 b3
  generalize W.setCell ⟨T, 3, none⟩ b3 = W at h3 ⊢
  have h4 : (W.setCell ⟨T, 4, none⟩ b4).heap[T]? = some (.cells #[b0, b1, b2, b3, b4, a5, a6, a7, a8, a9, aa] ty (0, 0)) := heap_set h3 b4
  generalize W.setCell ⟨T, 4, none⟩ b4 = W at h4 ⊢
  have h5 : (W.setCell ⟨T, 5, none⟩ b5).heap[T]? = some (.cells #[b0, b1, b2, b3, b4, b5, a6, a7, a8, a9, aa] ty (0, 0)) := heap_set h4 b5
  generalize W.setCell ⟨T, 5, none⟩ b5 = W at h5 ⊢
  have h6 : (W.setCell ⟨T, 6, none⟩ b6).heap[T]? = some (.cells #[b0, b1, b2, b3, b4, b5, b6, a7, a8, a9, aa] ty (0, 0)) := heap_set h5 b6
  generalize W.setCell ⟨T, 6, none⟩ b6 = W at h6 ⊢
  exact heap_set h6 b7
theorem W8.hs {w : World} {h kb : Nat} {s : St} {tv : Value} {n : UInt64} (H : Hs w h kb s tv n) (t : St) : Hs (W8 w h t) h kb t tv n :=
  ⟨eleven H.hh _ _ _ _ _ _ _ _, (W8.keep w h t).heap H.ne.symm H.hk, H.ne⟩

theorem block_st (st : St) (bb bo bc kb : Nat) (bs : List UInt8) (w : World) (hl : bs.length = 128)
    (hb : ∀ j, j < 128 → w.cell? ⟨bb, bo + j, none⟩ = some (B8 (bs.getD j 0))) (hk : ∀ j, j < 80 → w.cell? ⟨kb, j, none⟩ = some (U (kW.getD j 0))) (F : St) (hF : blockF st bs = F) :
    Calls Tryd.prog 101 #[.agg #[U st.a, U st.b, U st.c, U st.d, U st.e, U st.f, U st.g, U st.h], .slice (some ⟨bb, bo, none⟩) 128 bc, .pointer (some ⟨kb, 0, none⟩)] w fun e w' => e = .returned (.agg #[U F.a, U F.b, U F.c, U F.d, U F.e, U F.f, U F.g, U F.h]) ∧ Below w.heap.size w w' := by
  subst hF
  exact block_any _ _ _ _ _ _ _ _ _ _ _ _ _ _ hl hb hk

theorem cut128 (b o : Nat) {n d : Nat} (hn : n ≤ d) : ∃ o3, (if d = 128 then some (⟨b, o, none⟩ : Addr) else some ⟨b, o + 128, none⟩) = some ⟨b, o3, none⟩ ∧ (0 < n - 128 → o3 = o + 128) := by
  by_cases e : d = 128
  · exact ⟨o, by rw [if_pos e], fun h => by omega⟩
  · exact ⟨o + 128, by rw [if_neg e], fun _ => rfl⟩
def lenV : Value → Nat
  | .slice _ n _ => n
  | _ => 0

/-- A hasher that has taken M; its tail among the blocks from B on. -/
def HM (w : World) (B h kb : Nat) (M : List UInt8) : Prop :=
  ∃ A c, Hs w h kb (stOf M) (.slice A (tailOf M).length c) (UInt64.ofNat M.length) ∧ OwnB w B A c (tailOf M)

/-- Ahead of the loop's round j. -/
def WrLoop (w : World) (B h kb b : Nat) (M : List UInt8) (s1 : Value) (wx : World) : Prop :=
  ∃ j o n d A c, s1 = .slice (some ⟨b, o, none⟩) n d ∧ n = (M.drop (128 * j)).length ∧ n ≤ d ∧ 128 * j ≤ M.length ∧ (∀ i, i < n → w.cell? ⟨b, o + i, none⟩ = some (B8 ((M.drop (128 * j)).getD i 0))) ∧
    Hs wx h kb (absN H0 M j) (.slice A 0 c) (UInt64.ofNat M.length) ∧ OwnB wx B A c [] ∧ Below B w wx

theorem Hs.setN {w : World} {h kb : Nat} {s : St} {tv : Value} {n : UInt64} (H : Hs w h kb s tv n) (m : UInt64) : Hs (w.setCell ⟨h, 9, none⟩ (U m)) h kb s tv m :=
  ⟨heap_set H.hh _, by rw [Below.heap_setCell _ _ _ _ (by exact H.ne.symm)]; exact H.hk, H.ne⟩
theorem Hs.setT {w : World} {h kb : Nat} {s : St} {tv : Value} {n : UInt64} (H : Hs w h kb s tv n) (tv' : Value) : Hs (w.setCell ⟨h, 8, none⟩ tv') h kb s tv' n :=
  ⟨heap_set H.hh _, by rw [Below.heap_setCell _ _ _ _ (by exact H.ne.symm)]; exact H.hk, H.ne⟩
theorem Hs.ownSet {w : World} {h kb : Nat} {s : St} {tv : Value} {n : UInt64} (H : Hs w h kb s tv n) {B : Nat} {A : Option Addr} {c : Nat} {l : List UInt8} (hO : OwnB w B A c l) (o : Nat) (v : Value) : OwnB (w.setCell ⟨h, o, none⟩ v) B A c l :=
  hO.keep (Keep.set (fun k => k = h) h o v rfl) (hO.ne H.hh (by decide))
theorem Hs.grew {w w' : World} {h kb : Nat} {s : St} {tv : Value} {n : UInt64} (H : Hs w h kb s tv n) {B : Nat} {A : Option Addr} {c k : Nat} {l : List UInt8} (hO : OwnB w B A c l) (hg : w.grownBy w' (Value.slice A k c).ownBlock) : Hs w' h kb s tv n :=
  H.keep (D := fun k => ∃ a, A = some a ∧ a.block = k) (keep_grew hg (fun a ha => ⟨a, ha, rfl⟩)) (fun ⟨a, ha, e⟩ => hO.ne H.hh (by decide) a ha e) (fun ⟨a, ha, e⟩ => hO.ne H.hk (by decide) a ha e)

/-- Behind the filling of the tail with k bytes. -/
def WrFill (w : World) (B h kb b : Nat) (M l t : List UInt8) (k : Nat) (N2 : UInt64) (s1 : Value) (wx : World) : Prop :=
  ∃ o d A c, s1 = .slice (some ⟨b, o, none⟩) (l.length - k) d ∧ l.length - k ≤ d ∧ (∀ i, i < l.length - k → w.cell? ⟨b, o + i, none⟩ = some (B8 ((l.drop k).getD i 0))) ∧
    Hs wx h kb (stOf M) (.slice A (t.length + k) c) N2 ∧ OwnB wx B A c (t ++ l.take k) ∧ Below B w wx

set_option maxRecDepth 100000 in
set_option maxHeartbeats 8000000 in
theorem write_any (B hp kb b o d : Nat) (M l : List UInt8) (w : World) (H : HM w B hp kb M) (hB : B ≤ w.heap.size) (hh : B ≤ hp) (hb : b < B) (hd : l.length ≤ d) (hl : l.length ≤ 1099511627776) (hM : M.length ≤ 1099511627776)
    (hX : ∀ i, i < l.length → w.cell? ⟨b, o + i, none⟩ = some (B8 (l.getD i 0))) :
    Calls Tryd.prog 93 #[.pointer (some ⟨hp, 0, none⟩), .slice (some ⟨b, o, none⟩) l.length d] w fun e w' => e = .returned (.tuple #[]) ∧ HM w' B hp kb (M ++ l) ∧ Below B w w' := by
  obtain ⟨A, c, H, hO⟩ := H
  have hX2 := Lib.hid hX
  have h9 : IntKind.u64.wrap (nv (UInt64.ofNat M.length) + (l.length : Int)) = nv (UInt64.ofNat (M ++ l).length) := by
    rw [IntKind.wrap_u64, List.length_append]
    unfold nv
    simp
  generalize UInt64.ofNat M.length = N at H h9
  have hN2 : ∃ N2, N2 = UInt64.ofNat (M ++ l).length := ⟨_, rfl⟩
  obtain ⟨N2, hN2⟩ := hN2
  rw [← hN2] at h9
  have hN3 := Lib.hid hN2
  clear hN2
  have c9 : w.cell? ⟨hp, 9, none⟩ = some (U N) := cell_of H.hh rfl
  have f9 : w.frozen? ⟨hp, 9, none⟩ = false := free_of H.hh
  have c8 : w.cell? ⟨hp, 8, none⟩ = some (.slice A (tailOf M).length c) := cell_of H.hh rfl
  have hH := Lib.hid H
  have hO1 := Lib.hid hO
  clear H hX hO
  go_enter Tryd.func93, Tryd.ntmps93
  go_wp2_with fail
  refine (made_any _ hp kb _ _ _ hH.out).mono ?_
  rintro e w1 ⟨rfl, rfl⟩
  go_upto_if 23 with fail
  have hH1 := hH.out.setN N2
  have hO2 := hH.out.ownSet hO1.out 9 (U N2)
  have hB1 : Below B w (w.setCell ⟨hp, 9, none⟩ (U N2)) := (Below.refl _ _).setCell (p := ⟨hp, 9, none⟩) hh _
  have hz1 : (w.setCell ⟨hp, 9, none⟩ (U N2)).heap.size = w.heap.size := by simp
  clear c9 f9 c8 h9
  generalize w.setCell ⟨hp, 9, none⟩ (U N2) = w1 at hH1 hO2 hB1 hz1 ⊢
  have c8 : w1.cell? ⟨hp, 8, none⟩ = some (.slice A (tailOf M).length c) := cell_of hH1.hh rfl
  have f8 : ∀ wn : World, wn.heap[hp]? = w1.heap[hp]? → wn.frozen? ⟨hp, 8, none⟩ = false := fun wn e => free_of (e.trans hH1.hh)
  have hH2 := Lib.hid hH1
  have hO3 := Lib.hid hO2
  have hB2 := Lib.hid hB1
  replace f8 := Lib.hid f8
  clear hH1 hO2 hB1
  have ht := tailOf_lt M
  have htm := tailOf_length M
  have hfs := Lib.hid (fun h => feed_short (M := M) (l := l) h)
  have hfe := Lib.hid (feed_even (M := M) (l := l))
  have hff := Lib.hid (fun k h1 h2 => feed_fill (M := M) (l := l) k h1 h2)
  generalize tailOf M = t at c8 hO3 hO1 hH hH2 ht htm hfs hfe hff ⊢
  replace htm := Lib.hid htm
  go_cut [1] (fun s1 wx => WrLoop w B hp kb b (M ++ l) s1 wx)
  case first =>
    rcases Nat.eq_zero_or_pos t.length with h0 | h0
    · have e0 : (decide (0 < t.length)) = false := by simp [h0]
      rw [e0]
      go_wp2_with fail
      go_meet
      obtain rfl : t = [] := List.eq_nil_of_length_eq_zero h0
      have e2 := hfe.out.2
      rw [List.nil_append] at e2
      exact ⟨M.length / 128, o, l.length, d, A, c, rfl, by rw [← e2], hd, by simp; omega, fun i hi => by rw [← e2]; exact hX2.out i hi, by rw [← hfe.out.1, ← hN3.out]; exact hH2.out, hO3.out, hB2.out⟩
    · have e0 : (decide (0 < t.length)) = true := by simp; omega
      rw [e0]
      obtain ⟨i0, hi0, hz0, hz1, hz2⟩ := info_parts inf5
      obtain ⟨k, hk⟩ : ∃ k, k = min (128 - t.length) l.length := ⟨_, rfl⟩
      have hmin : min (128 - (t.length : Int)) (l.length : Int) = (k : Int) := by omega
      have hkl : k ≤ l.length := by omega
      have hkt : t.length + k ≤ 128 := by omega
      have hmd : ((l.length : Int) - (k : Int)).toNat = l.length - k := by omega
      have hkd : k ≤ d := by omega
      have hm2 := Lib.hid hmin
      have hk2 := Lib.hid hk
      clear hmin hk
      go_upto_region 4 with fail
      rw [hm2.out]
      go_cut [1] (fun s1 wx => WrFill w B hp kb b M l t k N2 s1 wx)
      case first =>
        have hq1 : (l.take k).length = k := by simp; omega
        have hq2 : Bs w1 (some ⟨b, o, none⟩) (l.take k) := ((Bs.arr (l := l) hX2.out).take k).below hB2.out (fun a ha => by cases ha; exact hb)
        have hq3 : t.length + (l.take k).length ≤ 140737488355328 := by omega
        have hq4 : B ≤ w1.heap.size := by omega
        replace hq2 := Lib.hid hq2
        have hq5 := Lib.hid hq4
        clear hq4
        go_region_law (refine step_append_bs _ (by rfl) _ _ 22 (by rfl) B i0 Tryd.underlying22 hi0 hz0 hz1 hz2 A t.length c t (by rfl) (by rfl) hO3.out (some ⟨b, o, none⟩) k d (l.take k) hq1 (by rfl) hq2.out hq3 hq5.out ?_
                       intro A4 c4 w4 hO4 hg4 hat4
                       have hH4 : Hs w4 hp kb (stOf M) (.slice A t.length c) N2 := Hs.grew (hH2.out.keep (D := fun _ => False) Keep.drew id id) (w := w1.drew) hO3.out hg4
                       have hB4 : Hid (Below B w w4) := Lib.hid (below_grew (w := w1.drew) hB2.out.drew hO3.out (Nat.le_refl _) hq5.out hg4)
                       have d8 : w4.cell? ⟨hp, 8, none⟩ = some (.slice A t.length c) := cell_of hH4.hh rfl
                       have e8 : w4.frozen? ⟨hp, 8, none⟩ = false := free_of hH4.hh
                       have hO5 := Lib.hid hO4
                       have hH5 := Lib.hid hH4
                       clear hO4 hg4 hat4 hH4)
        all_goals go_wp2_with fail
        all_goals go_meet
        · refine ⟨o, 0, A4, c4, rfl, by omega, fun i hi => absurd hi (by omega), hH5.out.setT _, hH5.out.ownSet hO5.out 8 _, hB4.out.setCell (p := ⟨hp, 8, none⟩) hh _⟩
        · refine ⟨o + k, d - k, A4, c4, rfl, by omega, ?_, hH5.out.setT _, hH5.out.ownSet hO5.out 8 _, hB4.out.setCell (p := ⟨hp, 8, none⟩) hh _⟩
          intro i hi
          rw [getD_drop, Nat.add_assoc]
          exact hX2.out (k + i) (by omega)
      case rest =>
        clear hO3 hB2 hH2 c8 hz1
        obtain ⟨o4, d4, A4, c4, rfl, hd4, hX4, hH4, hO4, hB4⟩ := hcut
        have c8 : wc.cell? ⟨hp, 8, none⟩ = some (.slice A4 (t.length + k) c4) := cell_of hH4.hh rfl
        have hH5 := Lib.hid hH4
        have hO5 := Lib.hid hO4
        have hB5 := Lib.hid hB4
        have hX5 := Lib.hid hX4
        rcases Nat.lt_or_ge (t.length + k) 128 with h7 | h7
        · clear hH4 hO4 hB4 hX4
          go_wp2_with fail
          refine bodyPost_ret (results_none rfl _ _ _) rfl ?_
          have hkl2 : k = l.length := by have := hk2.out; omega
          have e := hfs.out (by omega)
          have hO6 := hO5.out
          rw [hkl2, List.take_length] at hO6
          refine ⟨rfl, ⟨A4, c4, ?_, ?_⟩, hB5.out⟩
          · rw [e.1, e.2, ← hN3.out, List.length_append, ← hkl2]
            exact hH5.out
          · rw [e.2]
            exact hO6
        · have h8 : t.length + k = 128 := by omega
          rw [h8] at c8
          obtain ⟨g4, cur4, rfl, hg4, hgr, hgl⟩ : ∃ g cur, A4 = some ⟨g, 0, none⟩ ∧ B ≤ g ∧ wc.heap[g]? = some (.cells cur 5 (0, 0)) ∧ (t ++ l.take k).length ≤ c4 := by
            rcases hO4.form with ⟨_, _, h⟩ | h
            · have hlen : (t ++ l.take k).length = 128 := by simp; omega
              rw [h] at hlen
              cases hlen
            · exact h
          have hlen : (t ++ l.take k).length = 128 := by simp; omega
          have hbs := hO4.bs.at
          rw [hlen] at hbs
          simp only [Nat.zero_add] at hbs
          have hbs2 := Lib.hid hbs
          have hc4 : 128 ≤ c4 := by omega
          have c10 : wc.cell? ⟨hp, 10, none⟩ = some (.pointer (some ⟨kb, 0, none⟩)) := cell_of hH4.hh rfl
          have hst := hff.out k h8 hkl
          clear hbs hgl hO4 hB4 hX4 hff hfe hfs hO1 hH
          generalize stOf M = st at hst hH4 hH5
          generalize t ++ l.take k = bs at hst hO5 hlen hbs2
          obtain ⟨F, hF⟩ : ∃ F, blockF st bs = F := ⟨_, rfl⟩
          rw [hF] at hst
          replace hst := Lib.hid hst
          replace hF := Lib.hid hF
          have z : ∀ j : Nat, ∀ v, #[U st.a, U st.b, U st.c, U st.d, U st.e, U st.f, U st.g, U st.h, .slice (some ⟨g4, 0, none⟩) (t.length + k) c4, U N2, .pointer (some ⟨kb, 0, none⟩)][j]? = some v → wc.cell? ⟨hp, j, none⟩ = some v := fun j v h => cell_of hH4.hh h
          have z0 := z 0 _ rfl
          have z1 := z 1 _ rfl
          have z2 := z 2 _ rfl
          have z3 := z 3 _ rfl
          have z4 := z 4 _ rfl
          have z5 := z 5 _ rfl
          have z6 := z 6 _ rfl
          have z7 := z 7 _ rfl
          clear z hH4
          go_upto_region 6 with fail
          go_region_law (go_simp; go_at_call 101
                         refine (block_st st g4 0 c4 kb bs _ hlen ?_ ?_ F hF.out).mono ?_
                         · exact fun j hj => by rw [Nat.zero_add]; exact hbs2.out j hj
                         · exact hH5.out.kcell
                         rintro e w5 ⟨rfl, hB6⟩
                         have hH6 := hH5.out.on (later (Below.refl _ _).drew hB6)
                         have y : ∀ j : Nat, ∀ v, #[U st.a, U st.b, U st.c, U st.d, U st.e, U st.f, U st.g, U st.h, .slice (some ⟨g4, 0, none⟩) (t.length + k) c4, U N2, .pointer (some ⟨kb, 0, none⟩)][j]? = some v → w5.cell? ⟨hp, j, none⟩ = some v := fun j v h => cell_of hH6.hh h
                         have y0 := y 0 _ rfl
                         have y1 := y 1 _ rfl
                         have y2 := y 2 _ rfl
                         have y3 := y 3 _ rfl
                         have y4 := y 4 _ rfl
                         have y5 := y 5 _ rfl
                         have y6 := y 6 _ rfl
                         have y7 := y 7 _ rfl
                         have y8 := y 8 _ rfl
                         have yf : ∀ o, w5.frozen? ⟨hp, o, none⟩ = false := fun o => free_of hH6.hh
                         have hO6 := Lib.hid (hO5.out.on (later (Below.refl _ _).drew hB6))
                         have hB7 := Lib.hid (below_keep hB5.out (Keep.of_below (D := fun _ => False) (later (Below.refl _ _).drew hB6)) (fun _ h => h.elim) (by have := hB5.out.size; omega))
                         have hH7 := Lib.hid hH6
                         clear hH6 hB6 y)
          all_goals go_wp2_with fail
          all_goals go_meet
          all_goals have k8 := W8.keep w5 hp F
          all_goals have ne8 := hO6.out.ne hH7.out.hh (by decide)
          all_goals have b8 := below_keep (D := fun k => k = hp) hB7.out k8 (fun _ h => by rw [h]; exact hh) (by have := hB7.out.size; omega)
          all_goals exact ⟨M.length / 128 + 1, o4, l.length - k, d4, some ⟨g4, 0, none⟩, c4, rfl, by rw [← hst.out.2, List.length_drop], hd4, by have := htm.out; simp; omega, fun i hi => by rw [← hst.out.2]; exact hX5.out i hi,
            by rw [← hst.out.1, ← hN3.out]; exact (W8.hs hH7.out F).setT _, (W8.hs hH7.out F).ownSet (hO6.out.keep k8 ne8).none_of 8 _, b8.setCell (p := ⟨hp, 8, none⟩) hh _⟩
  case rest =>
    have hM2 : (M ++ l).length ≤ 2199023255552 := by simp; omega
    clear hO3 hB2 hH2 c8 hz1 hfe hff hfs hO1 hH htm ht f8 hX2 hd hl hN3 t
    generalize hMe : M ++ l = M2 at hcut hM2
    replace hMe := Lib.hid hMe
    obtain ⟨i0, hi0, hz0, hz1, hz2⟩ := info_parts inf5
    go_wp2_with fail
    go_loopw [1] (fun s1 wr => WrLoop w B hp kb b M2 s1 wr) (fun s1 _ => lenV s1)
    case atStart => exact hcut
    case round =>
      clear hcut
      obtain ⟨j, o2, n2, d2, A2, c2, rfl, hn2, hnd, hj, hX, hH, hO, hB3⟩ := hrel
      replace hX := Lib.hid hX
      replace hO := Lib.hid hO
      replace hB3 := Lib.hid hB3
      rcases Nat.lt_or_ge n2 128 with h7 | h7
      · have c8 : wr.cell? ⟨hp, 8, none⟩ = some (.slice A2 0 c2) := cell_of hH.hh rfl
        have hbs : Hid (Bs wr (some ⟨b, o2, none⟩) (M2.drop (128 * j))) := Lib.hid ((Bs.arr (w := w) (fun i hi => hX.out i (by omega))).below hB3.out (fun a ha => by cases ha; exact hb))
        have he := Lib.hid (feed_end hj (by omega))
        generalize absN H0 M2 j = st at hH he
        generalize M2.drop (128 * j) = bs at hn2 hX hbs he
        have hsz := hB3.out.size
        replace hH := Lib.hid hH
        go_wp2_with (at_builtin; go_must (refine wpList_append_bs _ rfl _ _ 22 rfl B i0 Tryd.underlying22 hi0 hz0 hz1 hz2 A2 0 c2 [] rfl rfl hO.out (some ⟨b, o2, none⟩) n2 d2 bs hn2.symm rfl hbs.out ?q1 ?q2 ?_))
        case q1 => simp; omega
        case q2 => omega
        intro A3 c3 w3 hO3 hg3 hat3
        have hH3 := hH.out.grew hO.out hg3
        have e8 : w3.cell? ⟨hp, 8, none⟩ = some (.slice A2 0 c2) := cell_of hH3.hh rfl
        have f8 : w3.frozen? ⟨hp, 8, none⟩ = false := free_of hH3.hh
        have hB4 := Lib.hid (below_grew hB3.out hO.out (Nat.le_refl _) (by omega) hg3)
        replace hH3 := Lib.hid hH3
        replace hO3 := Lib.hid hO3
        clear hg3 hat3 hO hH hbs hX
        go_wp2_with fail
        go_end0
        refine ⟨rfl, ⟨A3, c3, ?_, ?_⟩, hB4.out.setCell (p := ⟨hp, 8, none⟩) hh _⟩
        · rw [hMe.out, ← he.out.1, ← he.out.2]
          exact hH3.out.setT _
        · rw [hMe.out, ← he.out.2]
          exact hH3.out.ownSet hO3.out 8 _
      · have hlt : 128 * (j + 1) ≤ M2.length := by simp at hn2; omega
        have hd2 : (128 : Int) ≤ (d2 : Int) := by omega
        have hst := feed_step (M := M2) j
        have hlen : ((M2.drop (128 * j)).take 128).length = 128 := by simp; omega
        have hbs : Hid (∀ i, i < 128 → w.cell? ⟨b, o2 + i, none⟩ = some (B8 (((M2.drop (128 * j)).take 128).getD i 0))) := Lib.hid (fun i hi => by rw [getD_take _ hi]; exact hX.out i (by omega))
        have hX2 : Hid (∀ i, i < n2 - 128 → w.cell? ⟨b, o2 + 128 + i, none⟩ = some (B8 ((M2.drop (128 * (j + 1))).getD i 0))) := Lib.hid (fun i hi => by rw [← hst.2, getD_drop, Nat.add_assoc]; exact hX.out (128 + i) (by omega))
        have hn3 : n2 - 128 = (M2.drop (128 * (j + 1))).length := by rw [← hst.2, List.length_drop, ← hn2]
        replace hst := Lib.hid hst.1
        replace hn2 := Lib.hid hn2
        replace hn3 := Lib.hid hn3
        generalize absN H0 M2 j = st at hst hH
        generalize (M2.drop (128 * j)).take 128 = bs at hst hlen hbs
        obtain ⟨F, hF⟩ : ∃ F, blockF st bs = F := ⟨_, rfl⟩
        rw [hF] at hst
        replace hF := Lib.hid hF
        have z : ∀ j : Nat, ∀ v, #[U st.a, U st.b, U st.c, U st.d, U st.e, U st.f, U st.g, U st.h, .slice A2 0 c2, U (UInt64.ofNat M2.length), .pointer (some ⟨kb, 0, none⟩)][j]? = some v → wr.cell? ⟨hp, j, none⟩ = some v := fun j v h => cell_of hH.hh h
        have z0 := z 0 _ rfl
        have z1 := z 1 _ rfl
        have z2 := z 2 _ rfl
        have z3 := z 3 _ rfl
        have z4 := z 4 _ rfl
        have z5 := z 5 _ rfl
        have z6 := z 6 _ rfl
        have z7 := z 7 _ rfl
        have z10 := z 10 _ rfl
        clear z hX
        replace hH := Lib.hid hH
        go_wp2_with fail
        go_region_law (go_simp; go_at_call 101
                       refine (block_st st b o2 d2 kb bs _ hlen ?_ ?_ F hF.out).mono ?_
                       · exact fun j hj => (Below.cell (Below.drew hB3.out) (p := ⟨b, o2 + j, none⟩) hb).trans (hbs.out j hj)
                       · exact hH.out.kcell
                       rintro e w5 ⟨rfl, hB6⟩
                       have hH6 := hH.out.on (later (Below.refl _ _).drew hB6)
                       have y : ∀ j : Nat, ∀ v, #[U st.a, U st.b, U st.c, U st.d, U st.e, U st.f, U st.g, U st.h, .slice A2 0 c2, U (UInt64.ofNat M2.length), .pointer (some ⟨kb, 0, none⟩)][j]? = some v → w5.cell? ⟨hp, j, none⟩ = some v := fun j v h => cell_of hH6.hh h
                       have y0 := y 0 _ rfl
                       have y1 := y 1 _ rfl
                       have y2 := y 2 _ rfl
                       have y3 := y 3 _ rfl
                       have y4 := y 4 _ rfl
                       have y5 := y 5 _ rfl
                       have y6 := y 6 _ rfl
                       have y7 := y 7 _ rfl
                       have yf : ∀ o, w5.frozen? ⟨hp, o, none⟩ = false := fun o => free_of hH6.hh
                       have hO6 := Lib.hid (hO.out.on (later (Below.refl _ _).drew hB6))
                       have hB7 := Lib.hid (below_keep hB3.out (Keep.of_below (D := fun _ => False) (later (Below.refl _ _).drew hB6)) (fun _ h => h.elim) (by have := hB3.out.size; omega))
                       have hH7 := Lib.hid hH6
                       clear hH6 hB6 y)
        all_goals go_wp2_with fail
        all_goals have hHz := Lib.hid (W8.hs hH7.out F)
        all_goals have hOz := Lib.hid (hO6.out.keep (W8.keep w5 hp F) (hO6.out.ne hH7.out.hh (by decide)))
        all_goals have hBz := Lib.hid (below_keep (D := fun k => k = hp) hB7.out (W8.keep w5 hp F) (fun _ h => by rw [h]; exact hh) (by have := hB7.out.size; omega))
        all_goals obtain ⟨o3, ho3, ho4⟩ := cut128 b o2 hnd
        all_goals rw [ho3]
        all_goals exact ⟨⟨j + 1, o3, n2 - 128, d2 - 128, A2, c2, rfl, hn3.out, by omega, hlt, fun i hi => by rw [ho4 (by omega)]; exact hX2.out i hi, by rw [← hst]; exact hHz.out, hOz.out, hBz.out⟩, by simp [lenV]; omega⟩
end Go.Proofs.YtmnmmabhmedioaaDoor
/- SHA-512: Sum. -/
namespace Go.Proofs.YtmnmmabhmedioaaDoor
open Go.RowKit
set_option linter.unusedVariables false
set_option linter.unusedSimpArgs false

theorem info5one : (Tryd.prog.info? 5).map (·.size) = some 1 := by kernel_rfl

/-- Two variables of 64 bytes, made first. -/
def z64 : Array Value := (List.replicate 64 (.int .u8 0)).toArray
structure Two (w wx : World) (cs : Array Value) : Prop where
  d0 : wx.heap[w.heap.size]? = some (.cells z64 97 (0, 0))
  d1 : wx.heap[w.heap.size + 1]? = some (.cells cs 97 (0, 0))
  bel : Below w.heap.size w wx
theorem two_made (w : World) : Two w ((w.alloc (.cells z64 97)).alloc (.cells z64 97)) z64 :=
  ⟨by rw [heap_alloc?, if_neg (by simp)]; exact heap_alloc_new w _, by rw [heap_alloc?, if_pos (by simp)], later (boxed _ _) (boxed _ _)⟩

/-- What Sum's loops keep. -/
structure SumSt (w wr : World) (hp kb S : Nat) (tv : Value) (N : UInt64) (st0 F : St) (cs : Array Value) : Prop where
  hs : Hs wr hp kb st0 tv N
  s : wr.heap[S]? = some (.cells F.vals 155 (0, 0))
  two : Two w wr cs
  hS : w.heap.size + 2 ≤ S
  hl : hp < w.heap.size
theorem Two.on {w wx wy : World} {cs : Array Value} (hb : Below wx.heap.size wx wy) (h : Two w wx cs) : Two w wy cs := ⟨heap_on hb h.d0, heap_on hb h.d1, below_keep h.bel (Keep.of_below (D := fun _ => False) hb) (fun _ h => h.elim) h.bel.size⟩
theorem SumSt.on {w wr wy : World} {hp kb S : Nat} {tv : Value} {N : UInt64} {st0 F : St} {cs : Array Value} (hb : Below wr.heap.size wr wy) (h : SumSt w wr hp kb S tv N st0 F cs) : SumSt w wy hp kb S tv N st0 F cs :=
  ⟨h.hs.on hb, heap_on hb h.s, h.two.on hb, h.hS, h.hl⟩
theorem SumSt.set {w wr : World} {hp kb S : Nat} {tv : Value} {N : UInt64} {st0 F : St} {cs : Array Value} (h : SumSt w wr hp kb S tv N st0 F cs) (hk : kb < w.heap.size) (t : St) : SumSt w (W8 wr S t) hp kb S tv N st0 t cs := by
  have k := W8.keep wr S t
  have h1 := h.hS
  have h2 := h.hl
  exact ⟨h.hs.keep k (by omega) (by omega), eight h.s _ _ _ _ _ _ _ _, ⟨k.heap (by omega) h.two.d0, k.heap (by omega) h.two.d1, below_keep h.two.bel k (fun i e => by omega) h.two.bel.size⟩, h.hS, h.hl⟩

def SumLoop (w : World) (hp kb S g : Nat) (tv : Value) (N : UInt64) (st0 : St) (full : List UInt8) (s5 : Value) (wr : World) : Prop :=
  ∃ j o n d, s5 = .slice (some ⟨g, o, none⟩) n d ∧ n = (full.drop (128 * j)).length ∧ n ≤ d ∧ 128 * j ≤ full.length ∧ (∀ i, i < n → wr.cell? ⟨g, o + i, none⟩ = some (B8 ((full.drop (128 * j)).getD i 0))) ∧ SumSt w wr hp kb S tv N st0 (absN H0 full j) z64

/-- The digest's variable behind i rounds. -/
def dcs (F : St) (i : Nat) : Array Value := ((digL F i ++ List.replicate (64 - i) 0).map B8).toArray
theorem dcs_zero (F : St) : dcs F 0 = z64 := rfl
theorem digL_succ (F : St) (i : Nat) : digL F (i + 1) = digL F i ++ [(F.get (i / 8) >>> UInt64.ofNat (56 - 8 * (i % 8))).toUInt8] := by simp [digL, List.range_succ]
theorem dcs_at (F : St) {i : Nat} (h : i < 64) : (dcs F i)[i]? = some (B8 0) := by
  have e : (digL F i).length = i := digL_length _ _
  simp only [dcs, List.getElem?_toArray, List.map_append]
  rw [List.getElem?_append_right (by simp [e]), List.length_map, e, Nat.sub_self, show 64 - i = (63 - i) + 1 from by omega, List.replicate_succ]
  rfl
theorem dcs_set (F : St) {i : Nat} (h : i < 64) : (dcs F i).setIfInBounds i (B8 (F.get (i / 8) >>> UInt64.ofNat (56 - 8 * (i % 8))).toUInt8) = dcs F (i + 1) := by
  have e : (digL F i).length = i := digL_length _ _
  apply Array.toList_inj.1
  simp only [dcs, Array.toList_setIfInBounds, digL_succ, List.map_append, List.append_assoc]
  rw [List.set_append_right _ _ (by simp [e]), List.length_map, e, Nat.sub_self, show 64 - i = (63 - i) + 1 from by omega, List.replicate_succ, List.map_cons, List.set_cons_zero, show 64 - (i + 1) = 63 - i from by omega]
  rfl
theorem dcs_size (F : St) {i : Nat} (h : i ≤ 64) : (dcs F i).size = 64 := by
  simp [dcs, digL_length]
  omega
theorem SumSt.dset {w wr : World} {hp kb S : Nat} {tv : Value} {N : UInt64} {st0 F : St} {i : Nat} (h : SumSt w wr hp kb S tv N st0 F (dcs F i)) (hk : kb < w.heap.size) (hi : i < 64) :
    SumSt w (wr.setCell ⟨w.heap.size + 1, i, none⟩ (B8 (F.get (i / 8) >>> UInt64.ofNat (56 - 8 * (i % 8))).toUInt8)) hp kb S tv N st0 F (dcs F (i + 1)) := by
  have h1 := h.hS
  have h2 := h.hl
  have k : Keep (fun n => n = w.heap.size + 1) wr (wr.setCell ⟨w.heap.size + 1, i, none⟩ (B8 (F.get (i / 8) >>> UInt64.ofNat (56 - 8 * (i % 8))).toUInt8)) := Keep.set (fun n => n = w.heap.size + 1) _ _ _ rfl
  refine ⟨h.hs.keep k (by omega) (by omega), k.heap (by omega) h.s, ⟨k.heap (by omega) h.two.d0, ?_, below_keep h.two.bel k (fun i e => by omega) h.two.bel.size⟩, h.hS, h.hl⟩
  rw [← dcs_set F hi]
  exact heap_set h.two.d1 _

set_option maxRecDepth 100000 in
set_option maxHeartbeats 8000000 in
theorem sum_any (B hp kb : Nat) (M : List UInt8) (w : World) (H : HM w B hp kb M) (hM : M.length ≤ 2199023255552) :
    Calls Tryd.prog 94 #[.pointer (some ⟨hp, 0, none⟩)] w fun e w' => e = .returned (.agg ((sha M).map B8).toArray) ∧ Below w.heap.size w w' := by
  obtain ⟨A, c, H, hO⟩ := H
  have hlp := heap_lt H.hh
  have htl := tailOf_lt M
  obtain ⟨i0, hi0, hz0, hz1, hz2⟩ := info_parts inf5
  have hmk : ∀ w : World, (Instr.makeSlice 22 (.int .i64 ((tailOf M).length : Nat)) (.int .i64 512)).run Tryd.prog w = .ok (.slice (some ⟨w.heap.size, 0, none⟩) (tailOf M).length 512) (w.alloc (.cells (madeCells #[.int .u8 0] 512) 5)) := fun w => by
    have h := run_make (P := Tryd.prog) w 22 5 i0 (.int .u8 0) Tryd.underlying22 hi0 hz0 .i64 .i64 ((tailOf M).length : Nat) 512 (by omega) (by omega) (by rw [hz2]; omega) (by omega)
    rw [hz1] at h
    rw [h]
    rfl
  have hbs := Lib.hid hO.bs
  replace hmk := Lib.hid hmk
  replace hO := Lib.hid hO
  go_enter Tryd.func94, Tryd.ntmps94
  replace H := Lib.hid H
  go_upto_region 2 with fail
  go_cut [9] (fun s9 wx => s9 = .bool false ∧ Two w wx z64)
  case first =>
    go_wp2_with fail
    refine (made_any _ hp kb _ _ _ (H.out.on (later (boxed _ _) (boxed _ _)))).mono ?_
    rintro e w1 ⟨rfl, rfl⟩
    go_wp2_with fail
    go_meet
    exact ⟨rfl, two_made w⟩
  case rest =>
    obtain ⟨rfl, hcut⟩ := hcut
    have hH1 := H.out.on hcut.bel
    have z : ∀ j : Nat, ∀ v, #[U (stOf M).a, U (stOf M).b, U (stOf M).c, U (stOf M).d, U (stOf M).e, U (stOf M).f, U (stOf M).g, U (stOf M).h, .slice A (tailOf M).length c, U (UInt64.ofNat M.length), .pointer (some ⟨kb, 0, none⟩)][j]? = some v → wc.cell? ⟨hp, j, none⟩ = some v := fun j v h => cell_of hH1.hh h
    have z0 := z 0 _ rfl
    have z1 := z 1 _ rfl
    have z2 := z 2 _ rfl
    have z3 := z 3 _ rfl
    have z4 := z 4 _ rfl
    have z5 := z 5 _ rfl
    have z6 := z 6 _ rfl
    have z7 := z 7 _ rfl
    have z8 := z 8 _ rfl
    have z9 := z 9 _ rfl
    clear z
    have hst := Lib.hid (feed_even (M := M) (l := padL (UInt64.ofNat M.length)))
    have hM2 := Lib.hid (padL_mod (UInt64.ofNat M.length))
    have hN : (UInt64.ofNat M.length).toNat = M.length := by simp; omega
    rw [hN] at hM2
    replace hN := Lib.hid hN
    have hpl := Lib.hid (padL_length (UInt64.ofNat M.length))
    have hres := Lib.hid (show sha M = digL (stOf (M ++ padL (UInt64.ofNat M.length))) 64 from rfl)
    generalize UInt64.ofNat M.length = N at *
    have hlp2 := heap_lt hH1.hh
    replace hH1 := Lib.hid hH1
    replace hcut := Lib.hid hcut
    have hmk := hmk.out
    have hbs2 := Lib.hid (hbs.out.on hcut.out.bel)
    generalize stOf M = st at *
    generalize tailOf M = t at *
    go_wp2_with fail
    have hR : ((wc.alloc (.cells st.vals 155)).alloc (.cells (madeCells #[.int .u8 0] 512) 5)).heap[wc.heap.size + 1]? = some (.cells (madeCells #[.int .u8 0] 512) 5 (0, 0)) := by
      rw [heap_alloc?, if_pos (by simp)]
    have hsz := hcut.out.bel.size
    obtain ⟨w3, hr3, hO3, hk3⟩ := run_copy_made (P := Tryd.prog) _ 22 3 Tryd.underlying22 info5one w.heap.size (wc.heap.size + 1) t.length c 512 hR (by omega) A t (hbs2.out.on (later (boxed _ _) (boxed _ _))) rfl (by omega) (by decide)
    have hS3 : SumSt w w3 hp kb wc.heap.size (.slice A t.length c) N st st z64 := by
      have hb : Below wc.heap.size wc ((wc.alloc (.cells st.vals 155)).alloc (.cells (madeCells #[.int .u8 0] 512) 5)) := later (boxed _ _) (boxed _ _)
      have hb3 : Below wc.heap.size wc w3 := below_keep hb hk3 (fun i e => by omega) (by simp; omega)
      have h1 := heap_lt hcut.out.d1
      exact ⟨hH1.out.on hb3, hk3.heap (by omega) (by rw [heap_alloc?, if_neg (by simp)]; exact heap_alloc_new _ _), hcut.out.on hb3, by omega, hlp⟩
    replace hr3 := Lib.hid hr3
    replace hO3 := Lib.hid hO3
    have e9 : w3.cell? ⟨hp, 9, none⟩ = some (U N) := cell_of hS3.hs.hh rfl
    have hw3 := hS3.two.bel.size
    replace hS3 := Lib.hid hS3
    clear hk3 hR hbs2
    go_wp2_with fail
    rw [hr3.out]
    simp only [Result.andThen]
    rw [Oper.upon_value]
    clear hr3 hcut hH1 z0 z1 z2 z3 z4 z5 z6 z7 z8 z9 hmk hbs
    go_wp2_with fail
    refine (pad_any N _).mono ?_
    rintro e w4 ⟨v, rfl, A5, c5, rfl, hO5, hB5⟩
    have hpb : (padL N).length ≤ 145 ∧ 17 ≤ (padL N).length := by rw [hpl.out]; unfold padZ; omega
    have hO6 := Lib.hid (hO3.out.on hB5)
    have hS4 := Lib.hid (hS3.out.on hB5)
    have hw4 := hB5.size
    have hbs5 := Lib.hid hO5.bs
    replace hO5 := Lib.hid hO5
    replace hB5 := Lib.hid hB5
    go_wp2_with (at_builtin; go_must (refine wpList_append_bs _ rfl _ _ 22 rfl w.heap.size i0 Tryd.underlying22 hi0 hz0 hz1 hz2 (some ⟨wc.heap.size + 1, 0, none⟩) t.length 512 t rfl rfl hO6.out A5 _ c5 (padL N) rfl rfl hbs5.out ?q1 ?q2 ?_))
    case q1 => omega
    case q2 => omega
    intro A6 c6 w5 hO7 hg7 hat7
    have h7 := hO6.out.ge _ rfl
    have hB6 : Below w.heap.size w w5 := below_grew (hS4.out.two.bel) hO6.out (Nat.le_refl _) (by omega) hg7
    have hK6 : Keep (fun k => k = wc.heap.size + 1) w4 w5 := keep_grew hg7 (fun a ha => by cases ha; rfl)
    have hS5 : SumSt w w5 hp kb wc.heap.size (.slice A t.length c) N st st z64 := by
      have h8 := hS4.out.two
      have h9 := hS4.out.hS
      have ha := hS4.out.hs
      have hkb := heap_lt H.out.hk
      exact ⟨ha.keep hK6 (by omega) (by omega), hK6.heap (by omega) hS4.out.s, ⟨hK6.heap (by omega) h8.d0, hK6.heap (by omega) h8.d1, hB6⟩, h9, hlp⟩
    have hlen : (t ++ padL N).length = t.length + (padL N).length := by simp
    obtain ⟨g, cur, rfl, hg, hgr, hgc⟩ : ∃ g cur, A6 = some ⟨g, 0, none⟩ ∧ w.heap.size ≤ g ∧ w5.heap[g]? = some (.cells cur 5 (0, 0)) ∧ (t ++ padL N).length ≤ c6 := by
      rcases hO7.form with ⟨_, _, h⟩ | h
      · rw [h] at hlen
        simp only [List.length_nil] at hlen
        omega
      · exact h
    have hgS : g ≠ wc.heap.size := fun e => hO7.ne hS5.s (by decide) _ rfl e
    have hcells := hO7.bs.at
    have hS0 : SumLoop w hp kb wc.heap.size g (.slice A t.length c) N st (M ++ padL N) (.slice (some ⟨g, 0, none⟩) (t.length + (padL N).length) c6) w5 := by
      refine ⟨M.length / 128, 0, _, c6, rfl, ?_, by omega, by simp; omega, ?_, ?_⟩
      · rw [← hst.out.2, hlen]
      · intro i hi
        rw [← hst.out.2]
        exact hcells i (by omega)
      · rw [← hst.out.1]
        exact hS5
    have hgl := heap_lt hgr
    have hfl : 128 ∣ (M ++ padL N).length := by
      have := hM2.out
      simp
      omega
    have hfb : (M ++ padL N).length ≤ 4398046511104 := by simp; omega
    replace hS0 := Lib.hid hS0
    have hkb := heap_lt H.out.hk
    clear hcells hS5 hgr hK6 hB6 hO7 hg7 hat7 hS4 hO6 hO5 hB5 hbs5 hlen hS3 hO3 e9 hpl hst hM2
    generalize M ++ padL N = full at hS0 hfl hfb hres
    generalize t.length + (padL N).length = n0 at hS0 ⊢
    generalize wc.heap.size = S at hgS hS0 ⊢
    go_wp2_with fail
    go_loopw [5] (fun s5 wr => SumLoop w hp kb S g (.slice A t.length c) N st full s5 wr) (fun s5 _ => lenV s5)
    case atStart => exact hS0.out
    case round =>
      clear hS0
      obtain ⟨j, o2, n2, d2, rfl, hn2, hnd, hj, hX, hS⟩ := hrel
      replace hX := Lib.hid hX
      rcases Nat.eq_zero_or_pos n2 with h7 | h7
      · have he : absN H0 full j = stOf full := by
          have : j = full.length / 128 := by simp at hn2; omega
          rw [this]; rfl
        rw [he] at hS
        subst h7
        clear hn2 hX hnd
        generalize stOf full = F at hS hres
        replace hS := Lib.hid hS
        go_wp2_with fail
        obtain ⟨wo, rfl⟩ : ∃ wo : World, wo = wr := ⟨_, rfl⟩
        go_loopw [6, 47] (fun _ si wr => ∃ i : Nat, i ≤ 64 ∧ si = .int .i64 i ∧ SumSt w wr hp kb S (.slice A t.length c) N st F (dcs F i)) (fun _ si _ => 64 - (intOf si).toNat)
        case atStart => exact ⟨0, by omega, rfl, hS.out⟩
        case round =>
          clear hS
          obtain ⟨i, hi, rfl, hS⟩ := hrel
          rcases Nat.lt_or_ge i 64 with hlt | hge
          · have x1 : wr.cell? ⟨S, i / 8, none⟩ = some (U (F.get (i / 8))) := cell_of hS.s (vals_get _ (by omega))
            have x2 : wr.cell? ⟨w.heap.size + 1, i, none⟩ = some (.int .u8 0) := cell_of hS.two.d1 (dcs_at F hlt)
            have x3 : wr.frozen? ⟨w.heap.size + 1, i, none⟩ = false := free_of hS.two.d1
            have hS1 := Lib.hid (hS.dset hkb hlt)
            have g0 : (0 : Int) ≤ (i : Int) := by omega
            have g1 : (i : Int) < 64 := by omega
            clear hS
            have hv : nv (F.get (i / 8)) / 2 ^ (56 - 8 * (i % 8)) % 256 = nb (F.get (i / 8) >>> UInt64.ofNat (56 - 8 * (i % 8))).toUInt8 := by
              rw [u64_shr_pow _ _ (by omega), ← IntKind.wrap_u8, u8_of64]
            replace hv := Lib.hid hv
            go_wp2_with fail
            rw [hv.out]
            exact ⟨⟨i + 1, by omega, by go_num, hS1.out⟩, by simp [intOf]; omega⟩
          · have : i = 64 := by omega
            subst this
            have e64 : ((64 : Nat) : Int) = 64 := rfl
            rw [e64]
            have hfin : dcs F 64 = ((sha M).map B8).toArray := by rw [hres.out]; simp [dcs]
            rw [hfin] at hS
            have hsz : ((sha M).map B8).toArray.size = 64 := by simp [sha_length]
            have hone : ((sha M).map B8).toArray.all (·.oneCell') = true := all_oneCell_toArray one_bytes
            generalize hD : ((sha M).map B8).toArray = D at hS hsz hone
            replace hD := Lib.hid hD
            have hd0 := Lib.hid hS.two.d0
            have hd1 := Lib.hid hS.two.d1
            have hb := Lib.hid hS.two.bel
            have hif : (Tryd.prog.info? 97).map (·.size) = some D.size := by rw [hsz]; kernel_rfl
            clear hS hres
            go_upto_region 16 with fail
            go_step
            refine wpList_loadW _ rfl _ _ rfl (w.heap.size + 1) rfl D _ hd1.out _ Tryd.underlying97 rfl hif ?_
            refine wpList_storeW _ rfl _ _ _ rfl w.heap.size D rfl rfl z64 _ hd0.out hif (by rw [hsz]; rfl) hone ?_
            refine wpList_nil ?_
            go_wp2
            exact bodyPost_ret (results_cell_row rfl _ _ w.heap.size 97 D (0, 0) _ rfl (setRow_heap _ _ _ _ _ _ hd0.out) Tryd.underlying97 rfl hif) rfl ⟨by rw [hD.out], below_keep hb.out (setRow_keep _ _ _) (fun i e => by omega) hb.out.size⟩
      · have hlt : 128 * (j + 1) ≤ full.length ∧ 128 ≤ n2 := by simp at hn2; omega
        have hd2 : (128 : Int) ≤ (d2 : Int) := by omega
        have hpos : (0 : Int) < (n2 : Int) := by omega
        have hn128 : (128 : Int) ≤ (n2 : Int) := by omega
        have hst := feed_step (M := full) j
        have hlen : ((full.drop (128 * j)).take 128).length = 128 := by simp; omega
        have hbs : Hid (∀ i, i < 128 → wr.cell? ⟨g, o2 + i, none⟩ = some (B8 (((full.drop (128 * j)).take 128).getD i 0))) := Lib.hid (fun i hi => by rw [getD_take _ hi]; exact hX.out i (by omega))
        have hX2 : Hid (∀ i, i < n2 - 128 → wr.cell? ⟨g, o2 + 128 + i, none⟩ = some (B8 ((full.drop (128 * (j + 1))).getD i 0))) := Lib.hid (fun i hi => by rw [← hst.2, getD_drop, Nat.add_assoc]; exact hX.out (128 + i) (by omega))
        have hn3 : n2 - 128 = (full.drop (128 * (j + 1))).length := by rw [← hst.2, List.length_drop, ← hn2]
        replace hst := Lib.hid hst.1
        replace hn2 := Lib.hid hn2
        replace hn3 := Lib.hid hn3
        generalize absN H0 full j = st2 at hst hS
        generalize (full.drop (128 * j)).take 128 = bs at hst hlen hbs
        obtain ⟨F, hF⟩ : ∃ F, blockF st2 bs = F := ⟨_, rfl⟩
        rw [hF] at hst
        replace hF := Lib.hid hF
        have z : ∀ j : Nat, ∀ v, #[U st2.a, U st2.b, U st2.c, U st2.d, U st2.e, U st2.f, U st2.g, U st2.h][j]? = some v → wr.cell? ⟨S, j, none⟩ = some v := fun j v h => cell_of hS.s h
        have z0 := z 0 _ rfl
        have z1 := z 1 _ rfl
        have z2 := z 2 _ rfl
        have z3 := z 3 _ rfl
        have z4 := z 4 _ rfl
        have z5 := z 5 _ rfl
        have z6 := z 6 _ rfl
        have z7 := z 7 _ rfl
        have z10 : wr.cell? ⟨hp, 10, none⟩ = some (.pointer (some ⟨kb, 0, none⟩)) := cell_of hS.hs.hh rfl
        clear z hX
        replace hS := Lib.hid hS
        go_wp2_with fail
        go_region_law (go_simp; go_at_call 101
                       refine (block_st st2 g o2 d2 kb bs _ hlen ?_ ?_ F hF.out).mono ?_
                       · exact hbs.out
                       · exact hS.out.hs.kcell
                       rintro e w6 ⟨rfl, hB6⟩
                       have hb6 : Below wr.heap.size wr w6 := later (Below.refl _ _).drew hB6
                       have hS6 := hS.out.on hb6
                       have y : ∀ j : Nat, ∀ v, #[U st2.a, U st2.b, U st2.c, U st2.d, U st2.e, U st2.f, U st2.g, U st2.h][j]? = some v → w6.cell? ⟨S, j, none⟩ = some v := fun j v h => cell_of hS6.s h
                       have y0 := y 0 _ rfl
                       have y1 := y 1 _ rfl
                       have y2 := y 2 _ rfl
                       have y3 := y 3 _ rfl
                       have y4 := y 4 _ rfl
                       have y5 := y 5 _ rfl
                       have y6 := y 6 _ rfl
                       have y7 := y 7 _ rfl
                       have yf : ∀ o, w6.frozen? ⟨S, o, none⟩ = false := fun o => free_of hS6.s
                       have hX6 : Hid (∀ i, i < n2 - 128 → (W8 w6 S F).cell? ⟨g, o2 + 128 + i, none⟩ = some (B8 ((full.drop (128 * (j + 1))).getD i 0))) := Lib.hid (fun i hi => (W8.keep w6 S F).cell hgS (cell_on hb6 (hX2.out i hi)))
                       have hS7 := Lib.hid (hS6.set hkb F)
                       clear hS6 hB6 y hb6)
        all_goals go_wp2_with fail
        all_goals obtain ⟨o3, ho3, ho4⟩ := cut128 g o2 hnd
        all_goals rw [ho3]
        all_goals exact ⟨⟨j + 1, o3, n2 - 128, d2 - 128, rfl, hn3.out, by omega, hlt.1, fun i hi => by rw [ho4 (by omega)]; exact hX6.out i hi, by rw [← hst.out]; exact hS7.out⟩, by simp [lenV]; omega⟩
end Go.Proofs.YtmnmmabhmedioaaDoor
