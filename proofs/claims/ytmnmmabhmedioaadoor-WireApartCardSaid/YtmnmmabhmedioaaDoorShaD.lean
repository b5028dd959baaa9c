/- SHA-512: the hasher: made, New. -/
import Derived.Test.YtmnmmabhmedioaaDoorShaC
import Derived.Test.YtmnmmabhmedioaaDoorBytes
namespace Go.Proofs.YtmnmmabhmedioaaDoor
open Go.RowKit
set_option linter.unusedVariables false
set_option linter.unusedSimpArgs false

def H0 : St := ⟨0x6a09e667f3bcc908, 0xbb67ae8584caa73b, 0x3c6ef372fe94f82b, 0xa54ff53a5f1d36f1, 0x510e527fade682d1, 0x9b05688c2b3e6c1f, 0x1f83d9abfb41bd6b, 0x5be0cd19137e2179⟩
theorem H0_vals : words hW = H0.vals := rfl

/-- A hasher in memory. -/
structure Hs (w : World) (h kb : Nat) (s : St) (tv : Value) (n : UInt64) : Prop where
  hh : w.heap[h]? = some (.cells #[U s.a, U s.b, U s.c, U s.d, U s.e, U s.f, U s.g, U s.h, tv, U n, .pointer (some ⟨kb, 0, none⟩)] 216 (0, 0))
  hk : w.heap[kb]? = some (.cells (words kW) 190 (0, 0))
  ne : h ≠ kb

theorem Hs.on {w w' : World} {h kb : Nat} {s : St} {tv : Value} {n : UInt64} (hb : Below w.heap.size w w') (H : Hs w h kb s tv n) : Hs w' h kb s tv n := ⟨heap_on hb H.hh, heap_on hb H.hk, H.ne⟩
theorem Hs.keep {D : Nat → Prop} {w w' : World} {h kb : Nat} {s : St} {tv : Value} {n : UInt64} (hb : Keep D w w') (h1 : ¬ D h) (h2 : ¬ D kb) (H : Hs w h kb s tv n) : Hs w' h kb s tv n := ⟨hb.heap h1 H.hh, hb.heap h2 H.hk, H.ne⟩
theorem Hs.kcell {w : World} {h kb : Nat} {s : St} {tv : Value} {n : UInt64} (H : Hs w h kb s tv n) : ∀ j, j < 80 → w.cell? ⟨kb, j, none⟩ = some (U (kW.getD j 0)) := fun j hj => cell_of H.hk (by
  have : j < kW.length := by simpa [kW] using hj
  simp [words, List.getD_eq_getElem?_getD, List.getElem?_eq_getElem this])


set_option maxRecDepth 100000 in
set_option maxHeartbeats 4000000 in
theorem made_any (w : World) (h kb : Nat) (s : St) (tv : Value) (n : UInt64) (H : Hs w h kb s tv n) :
    Calls Tryd.prog 100 #[.pointer (some ⟨h, 0, none⟩)] w fun e w' => e = .returned (.bool true) ∧ w = w' := by
  have c : w.cell? ⟨h, 10, none⟩ = some (.pointer (some ⟨kb, 0, none⟩)) := cell_of H.hh rfl
  clear H
  go_enter Tryd.func100, Tryd.ntmps100
  go_wp2
  go_ret
  exact ⟨rfl, rfl⟩

theorem begin_H0 (w : World) : Calls Tryd.prog 99 #[] w fun e w' => e = .returned (.agg H0.vals) ∧ Below w.heap.size w w' := begin_any w

set_option maxRecDepth 100000 in
set_option maxHeartbeats 4000000 in
theorem new_any (w : World) : Calls Tryd.prog 92 #[] w fun e w' => ∃ h kb, e = .returned (.pointer (some ⟨h, 0, none⟩)) ∧ w.heap.size ≤ h ∧ w.heap.size ≤ kb ∧ Hs w' h kb H0 (.slice none 0 0) 0 ∧ Below w.heap.size w w' := by
  go_enter Tryd.func92, Tryd.ntmps92
  go_wp2_with fail
  refine (consts_any _).mono ?_
  rintro e w1 ⟨rfl, b1⟩
  rename_i hK
  refine hK _ _ ?_
  refine wpList_value (w' := w1.alloc (Obj.cells Tryd.zeroCells190 190)) rfl (.pointer (some ⟨w1.heap.size, 0, none⟩)) (by kernel_rfl) ?_
  refine wpList_skips (w' := w1.alloc (Obj.cells (words kW) 190)) rfl ?_ ?_
  · have h := run_storeAt_new (P := Tryd.prog) w1 190 Tryd.zeroCells190 (words kW) (by kernel_rfl) (by kernel_rfl) (by kernel_rfl)
    show (Instr.storeAt 190 (.pointer (some ⟨w1.heap.size, 0, none⟩)) (.agg (words kW)) >>= fun _ => pure Next.skip : Sem Next).run Tryd.prog _ = _
    simp only [Sem.run_bind, h, Result.andThen, Sem.run_pure]
  refine wpList_nil ?_
  have hkb : (w1.alloc (Obj.cells (words kW) 190)).heap[w1.heap.size]? = some (.cells (words kW) 190 (0, 0)) := heap_alloc_new w1 _
  have hB : Below w.heap.size w (w1.alloc (Obj.cells (words kW) 190)) := b1.alloc b1.size _
  have hkb0 := b1.size
  have hkl := heap_lt hkb
  generalize (w1.alloc (Obj.cells (words kW) 190)) = wb at hkb hB hkl ⊢
  generalize w1.heap.size = kb at hkb hkb0 hkl ⊢
  have hkb := Lib.hid hkb
  clear hK b1
  simp only [Act.put]
  go_wp2_with fail
  refine (begin_H0 _).mono ?_
  rintro e w2 ⟨rfl, b2⟩
  have hs2 := b2.size
  have hH : Hs (w2.alloc (.cells #[U H0.a, U H0.b, U H0.c, U H0.d, U H0.e, U H0.f, U H0.g, U H0.h, .slice none 0 0, U 0, .pointer (some ⟨kb, 0, none⟩)] 216)) w2.heap.size kb H0 (.slice none 0 0) 0 :=
    ⟨heap_alloc_new w2 _, by rw [Below.heap_alloc _ _ _ (by omega)]; exact heap_on b2 hkb.out, by omega⟩
  have hH := Lib.hid hH
  have hB2 := fun o => Lib.hid (later hB (later b2 (boxed w2 o)))
  have hz := hB.size
  go_wp2
  go_ret
  exact ⟨w2.heap.size, kb, rfl, by omega, hkb0, hH.out, (hB2 _).out⟩
end Go.Proofs.YtmnmmabhmedioaaDoor
