/- SHA-512: what is laid behind the bytes. -/
import Derived.Test.YtmnmmabhmedioaaDoorShaP
import Derived.Lib.AppendZeros
import Derived.Laws.MakeOwn
import Derived.Laws.CopyRow
import Derived.Laws.OwnMore
import Derived.Deep.AppendLies
import Derived.Laws.ShiftsVarLaws
import Derived.Deep.DeepCutAuto
namespace Go.Proofs.YtmnmmabhmedioaaDoor
open Go.RowKit
set_option linter.unusedVariables false
set_option linter.unusedSimpArgs false

/-- append(out, make([]byte, m)...) where there is room. -/
theorem run_append_zeros_room {P : Program} (w : World) (t tn ty e : TypeId) (i : TypeInfo) (kn : IntKind) (ht : P.underlying t = some (.slice e)) (htn : P.underlying tn = some (.int kn)) (hi : P.info? e = some i) (hz : i.zero = some (.int .u8 0)) (hs : i.size = 1) (hb : i.bytes = 1)
    (g n c m : Nat) (cur : Array Value) (hg : w.heap[g]? = some (.cells cur e (0, 0))) (hc : n + m ≤ c) (hcc : c ≤ cur.size) (hm : 0 < m) (hm2 : m ≤ 1000) :
    (Builtin.append_ #[t, tn] ty #[.slice (some ⟨g, 0, none⟩) n c, .int kn m]).run P w =
      .ok (.slice (some ⟨g, 0, none⟩) (n + m) c) (w.setRow g (cur.toList.take n ++ List.replicate m (Value.int .u8 0) ++ cur.toList.drop (n + m)).toArray) := by
  have hw : IntKind.i64.wrap (m : Int) = m := by rw [IntKind.wrap_i64]; omega
  have hn : m ≠ 0 := by omega
  have hneg : ¬ ((m : Int) < 0) := by omega
  have h48 : ¬ (281474976710656 < (m : Int)) := by omega
  have hz2 : (Builtin.zeroCells (Value.cells (.int .u8 0)) m).toList = List.replicate m (Value.int .u8 0) := by
    have e : Builtin.zeroCells (Value.cells (.int .u8 0)) m = madeCells #[.int .u8 0] m := by
      simp [Builtin.zeroCells, madeCells, Value.cells]
    rw [e, toList_madeCells_one]
  have hst := run_storeCells_at P g n e (List.replicate m (.int .u8 0)) 0 cur w hg (by simp; omega) (by intro v hv; rw [List.eq_of_mem_replicate hv]; rfl)
  simp [Builtin.append_, run_underlying ht, run_underlying htn, sizeOf, typeInfo, zeroValue, hi, hz, hs, hb, asInt, asIntOf, hw, hn, hneg, h48, hc, Addr.add]
  rw [show (if n = 0 then (⟨g, 0, none⟩ : Addr) else ⟨g, n, none⟩) = ⟨g, n, none⟩ from by split <;> simp_all, hz2, hst]
  simp
theorem append_zeros_own {P : Program} (w : World) (base t tn ty e : Nat) (i : TypeInfo) (kn : IntKind) (ht : P.underlying t = some (.slice e)) (htn : P.underlying tn = some (.int kn)) (hi : P.info? e = some i) (hz : i.zero = some (.int .u8 0)) (hs : i.size = 1) (hb : i.bytes = 1)
    (g n c m : Nat) (xs : List Value) (h : w.ownsRow base e 1 (.slice (some ⟨g, 0, none⟩) n c) n xs) (hc : n + m ≤ c) (hm : 0 < m) (hm2 : m ≤ 1000) :
    ∃ w', (Builtin.append_ #[t, tn] ty #[.slice (some ⟨g, 0, none⟩) n c, .int kn m]).run P w = .ok (.slice (some ⟨g, 0, none⟩) (n + m) c) w' ∧
      w'.ownsRow base e 1 (.slice (some ⟨g, 0, none⟩) (n + m) c) (n + m) (xs ++ List.replicate m (Value.int .u8 0)) ∧ w.grownBy w' (some g) := by
  obtain ⟨hl, h0 | ⟨g', c', cur, hv, hb', hg, h1, h2, h3, h4⟩⟩ := h
  · cases h0.1
  cases hv
  refine ⟨_, run_append_zeros_room w t tn ty e i kn ht htn hi hz hs hb g n c m cur hg hc (by omega) hm hm2, ?_, ?_⟩
  · refine ⟨by simp; omega, .inr ⟨g, c, _, rfl, hb', setRow_heap w g cur _ e _ hg, hc, h2, ?_, ?_⟩⟩
    · simp; omega
    · simp only [Nat.mul_one] at h4 ⊢
      rw [h4]
      have hx : (xs ++ List.replicate m (Value.int .u8 0)).length = n + m := by simp; omega
      exact List.take_left' hx
  · exact ⟨rfl, rfl, rfl, by simp, fun k hk hne => setRow_other w g k _ (fun e => hne (by rw [e]))⟩

theorem bs_zero (m : Nat) : List.replicate m (Value.int .u8 0) = (List.replicate m (0 : UInt8)).map B8 := by rw [List.map_replicate]; rfl

theorem u64_shr_pow (x : UInt64) (n : Nat) (hn : n < 64) : nv x / 2 ^ n = nv (x >>> UInt64.ofNat n) := by
  have h := u64_shr x n (2 ^ n) hn rfl
  rw [Int.natCast_pow] at h
  exact h

/-- The padding is in a row of its own. -/
def Padded (w : World) (x : UInt64) (v : Value) (w' : World) : Prop := ∃ A c, v = .slice A (padL x).length c ∧ OwnB w' w.heap.size A c (padL x) ∧ Below w.heap.size w w'

set_option maxRecDepth 100000 in
set_option maxHeartbeats 4000000 in
theorem pad_any (x : UInt64) (w : World) :
    Calls Tryd.prog 102 #[U x] w fun e w' => ∃ v, e = .returned v ∧ Padded w x v w' := by
  obtain ⟨b0, b1⟩ := nv_bd x
  have hn : nv x = (x.toNat : Int) := rfl
  obtain ⟨i0, hi0, hz0, hz1, hz2⟩ := info_parts inf5
  have hmk : ∀ w : World, (Instr.makeSlice 22 (.int .u64 (1 + (239 - nv x) % 128)) (.int .i64 256)).run Tryd.prog w = .ok (.slice (some ⟨w.heap.size, 0, none⟩) (1 + padZ x.toNat) 256) (w.alloc (.cells (madeCells #[.int .u8 0] 256) 5)) := fun w => by
    have h := run_make (P := Tryd.prog) w 22 5 i0 (.int .u8 0) Tryd.underlying22 hi0 hz0 .u64 .i64 (1 + (239 - nv x) % 128) 256 (by omega) (by omega) (by rw [hz2]; omega) (by omega)
    rw [hz1] at h
    rw [h]
    have e1 : (1 + (239 - nv x) % 128).toNat = 1 + padZ x.toNat := by rw [hn]; unfold padZ; omega
    rw [e1]
    rfl
  have hx8 : IntKind.u64.wrap (nv x * 8) = nv (x * 8) := u64_mul x 8
  have hz : padZ x.toNat < 128 := by unfold padZ; omega
  clear hn
  have hsz : (madeCells #[Value.int .u8 0] 256).size = 256 := size_madeCells _ _
  have hown1 : (w.alloc (.cells ((madeCells #[.int .u8 0] 256).setIfInBounds 0 (.int .u8 128)) 5)).ownsRow w.heap.size 5 1 (.slice (some ⟨w.heap.size, 0, none⟩) (1 + padZ x.toNat) 256) (1 + padZ x.toNat) ((128 :: List.replicate (padZ x.toNat) (0 : UInt8)).map B8) := by
    refine ⟨by simp; omega, .inr ⟨w.heap.size, 256, _, rfl, Nat.le_refl _, heap_alloc_new w _, by omega, by decide, by simp [hsz], ?_⟩⟩
    rw [Array.toList_setIfInBounds, toList_madeCells_one, show (256 : Nat) = 255 + 1 from rfl, List.replicate_succ, List.set_cons_zero, Nat.mul_one, Nat.add_comm 1, List.take_succ_cons, List.take_replicate, List.map_cons, List.map_replicate, show min (padZ x.toNat) 255 = padZ x.toNat from by omega]
    rfl
  have hc0 : (w.alloc (.cells (madeCells #[.int .u8 0] 256) 5)).cell? ⟨w.heap.size, 0, none⟩ = some (.int .u8 0) := by
    refine cell_of (heap_alloc_new w _) ?_
    rw [← Array.getElem?_toList, toList_madeCells_one]
    rfl
  have hf0 : (w.alloc (.cells (madeCells #[.int .u8 0] 256) 5)).frozen? ⟨w.heap.size, 0, none⟩ = false := free_of (heap_alloc_new w _)
  generalize hM : madeCells #[.int .u8 0] 256 = M at hmk hc0 hf0 hown1
  clear hM hsz
  generalize hZ : padZ x.toNat = Z at hmk hz hown1
  have hZ2 := Lib.hid hZ
  clear hZ
  have hmk2 := Lib.hid hmk
  have i0' : (0 : Int) < 1 + (Z : Int) := by omega
  obtain ⟨w3, hr3, ho3, hg3⟩ := append_zeros_own (P := Tryd.prog) (w.alloc (.cells (M.setIfInBounds 0 (.int .u8 128)) 5)) w.heap.size 22 3 22 5 i0 .i64 Tryd.underlying22 Tryd.underlying3 hi0 hz0 hz1 hz2 w.heap.size (1 + Z) 256 8 _ hown1 (by omega) (by omega) (by omega)
  have hB3' : Below w.heap.size w w3 := (boxed w _).grown hg3 (by simp) (fun k hk => by simp at hk; omega)
  have ho3' : OwnB w3 w.heap.size (some ⟨w.heap.size, 0, none⟩) 256 (128 :: List.replicate Z 0 ++ List.replicate 8 0) := by
    unfold OwnB
    rw [List.map_append, ← bs_zero 8]
    simpa [Nat.add_comm, Nat.add_left_comm] using ho3
  have hB4 := Lib.hid hB3'
  have ho4 := Lib.hid ho3'
  have hr4 := Lib.hid (show (Builtin.append_ #[22, 3] 22 #[.slice (some ⟨w.heap.size, 0, none⟩) (1 + Z) 256, .int .i64 8]).run Tryd.prog (w.alloc (.cells (M.setIfInBounds 0 (.int .u8 128)) 5)) = .ok (.slice (some ⟨w.heap.size, 0, none⟩) (1 + Z + 8) 256) w3 from hr3)
  clear hown1 hg3 hr3 ho3 ho3' hB3' hmk2
  go_enter Tryd.func102, Tryd.ntmps102
  go_upto_region 2 with fail
  go_wp2_with (at_builtin; go_must (refine Lib.wpList_append_run _ rfl _ _ _ _ rfl _ _ rfl rfl _ _ hr4.out ?_))
  go_loopw [3, 4] (fun so si wr => ∃ k : Nat, k ≤ 8 ∧ si = .int .i64 (7 - (k : Int)) ∧ ∃ A c, so = .slice A (1 + Z + 8 + k) c ∧ OwnB wr w.heap.size A c (128 :: List.replicate Z 0 ++ List.replicate 8 0 ++ be8 (x * 8) k) ∧ Below w.heap.size w wr) (fun _ si _ => (intOf si + 1).toNat)
  case atStart => exact ⟨0, by omega, rfl, _, _, rfl, by simpa [be8] using ho4.out, hB4.out⟩
  case round =>
    clear ho4 hB4 hr4
    obtain ⟨k, hk, rfl, A, c, rfl, hO, hB⟩ := hrel
    by_cases hlt : k < 8
    · have hs := Lib.hid (be8_succ (x * 8) k)
      have hsh : nv (x * 8) / 2 ^ (8 * (7 - k)) = nv ((x * 8) >>> UInt64.ofNat (8 * (7 - k))) := u64_shr_pow _ _ (by omega)
      have h8 := u8_of64 ((x * 8) >>> UInt64.ofNat (8 * (7 - k)))
      rw [IntKind.wrap_u8] at h8
      generalize (x * 8) >>> UInt64.ofNat (8 * (7 - k)) = y at hs hsh h8
      have g0 : (0 : Int) ≤ 7 - (k : Int) := by omega
      have hB1 := Lib.hid hB
      have hO1 := Lib.hid hO
      clear hO hB
      clear hmk hc0 hf0 i0' b0 b1
      go_upto_region 7 with fail
      go_wp2_with (at_builtin; go_must (refine wpList_append_bs _ rfl _ _ 22 rfl w.heap.size i0 Tryd.underlying22 hi0 hz0 hz1 hz2 A (1 + Z + 8 + k) c _ ?q1 rfl (hO1.out.on (boxed _ _)) (some ⟨wr.heap.size, 0, none⟩) 1 1 [y.toUInt8] rfl rfl ?q2 ?q3 ?q4 ?_))
      case q1 => simp [be8_length]; omega
      case q2 => exact Bs.one _ _ _
      case q3 => simp [be8_length]; omega
      case q4 => have := hB1.out.size; simp; omega
      intro A2 c2 w4 hO2 hg2 hat2
      have hB2 := Lib.hid (below_grew (later hB1.out (boxed _ _)) (hO1.out.on (boxed _ _)) (Nat.le_refl _) (by have := hB1.out.size; simp; omega) hg2)
      have hO2 := Lib.hid hO2
      clear hg2 hat2
      go_wp2
      go_roundw
      case rel =>
        refine ⟨k + 1, by omega, by go_num, A2, c2, rfl, ?_, hB2.out⟩
        have h := hO2.out
        rw [hs.out]
        simpa using h
      case measure => simp [intOf]; omega
    · have : k = 8 := by omega
      subst this
      have e8 : (7 : Int) - ((8 : Nat) : Int) = -1 := rfl
      rw [e8]
      have hO1 := Lib.hid hO
      have hB1 := Lib.hid hB
      have hz2 := Lib.hid hz
      clear hO hB hmk hc0 hf0 hz i0' b0 b1
      go_wp2
      go_ret
      refine ⟨_, rfl, A, c, ?_, ?_, hB1.out⟩
      · rw [padL_length, hZ2.out]
        exact congrArg (fun n => Value.slice A n c) (by omega)
      · rw [padL, hZ2.out]
        exact hO1.out
end Go.Proofs.YtmnmmabhmedioaaDoor
