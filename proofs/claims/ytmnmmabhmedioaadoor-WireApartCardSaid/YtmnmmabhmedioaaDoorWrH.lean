/- append(bytes, bytes...) where there is no room, onto whatever can be read. -/
import Derived.Test.YtmnmmabhmedioaaDoorBytes
import Derived.Lib.SlBytesConst
namespace Go.Proofs.YtmnmmabhmedioaaDoor
open Go.RowKit
set_option linter.unusedVariables false
set_option linter.unusedSimpArgs false
section
variable {P : Program} (w : World)
theorem run_append_bs_grow (t ty : TypeId) (i : TypeInfo) (ht : P.underlying t = some (.slice 5)) (hi : P.info? 5 = some i) (hz : i.zero = some (.int .u8 0))
    (hs : i.size = 1) (hby : i.bytes = 1) (b o c : Nat) (xs : List UInt8) (hx : ∀ i, i < xs.length → w.cell? ⟨b, o + i, none⟩ = some (B8 (xs.getD i 0)))
    (b2 o2 d : Nat) (l : List UInt8) (hl : ∀ i, i < l.length → w.cell? ⟨b2, o2 + i, none⟩ = some (B8 (l.getD i 0))) (hm : xs.length + l.length ≤ 140737488355328) (hc : c < xs.length + l.length) :
    ∃ c' w', (Builtin.append_ #[t, t] ty #[.slice (some ⟨b, o, none⟩) xs.length c, .slice (some ⟨b2, o2, none⟩) l.length d]).run P w = .ok (.slice (some ⟨w.heap.size, 0, none⟩) (xs.length + l.length) c') w' ∧
      OwnB w' w.heap.size (some ⟨w.heap.size, 0, none⟩) c' (xs ++ l) ∧ Below w.heap.size w w' := by
  have hr := run_append_grow (P := P) w t ty 5 i (.int .u8 0) ht hi hz ⟨b, o, none⟩ xs.length c (xs.map B8) (by simp [hs]) (news_bs hx) ⟨b2, o2, none⟩ l.length d (l.map B8) (by simp [hs]) (news_bs hl) hc (by omega) (by rw [hby]; exact growslice_fits hc (by omega))
  refine ⟨_, _, hr, ?_, (boxed w.drew _).mono (Nat.le_refl _) |> fun h => ⟨h.os, h.tape, h.output, h.size, h.block⟩⟩
  have hge := grownCap_ge w (xs.length + l.length) c 5
  have hcm := grownCap_le_maxLen w (xs.length + l.length) c 5 (by unfold maxLen; omega)
  refine ⟨by simp, .inr ⟨w.heap.size, _, _, by rw [List.length_append], Nat.le_refl _, heap_alloc_new w.drew _, by rw [List.length_append]; exact hge, hcm, ?_, ?_⟩⟩
  · simp [size_zeroCells, Value.cells]
    omega
  · simp only [Array.toList_append, List.append_assoc, List.map_append, Nat.mul_one]
    rw [← List.append_assoc, ← List.map_append]
    have e : ((xs ++ l).map B8).length = (xs ++ l).length := by simp
    rw [← e]
    exact List.take_left
theorem wpList_append_bs_grow {ops : Array Oper} {rest : List Oper} {o1 : Oper} {a : Act} {Q : Exit → Act → World → Prop} (hgd : o1.guard = none) (s x : Operand) (t : TypeId)
    (ho : o1.op = .call { callee := .builtin .append, args := #[s, x], argTypes := #[t, t] })
    (i : TypeInfo) (ht : P.underlying t = some (.slice 5)) (hi : P.info? 5 = some i) (hz : i.zero = some (.int .u8 0)) (hsz : i.size = 1) (hby : i.bytes = 1)
    (b o n c : Nat) (xs : List UInt8) (hn : xs.length = n) (hs : a.eval s = .slice (some ⟨b, o, none⟩) n c) (hxs : ∀ i, i < xs.length → w.cell? ⟨b, o + i, none⟩ = some (B8 (xs.getD i 0)))
    (b2 o2 m d : Nat) (l : List UInt8) (hl : l.length = m) (hx : a.eval x = .slice (some ⟨b2, o2, none⟩) m d) (hls : ∀ i, i < l.length → w.cell? ⟨b2, o2 + i, none⟩ = some (B8 (l.getD i 0)))
    (hm : xs.length + l.length ≤ 140737488355328) (hc : c < xs.length + l.length)
    (h : ∀ c' w', OwnB w' w.heap.size (some ⟨w.heap.size, 0, none⟩) c' (xs ++ l) → Below w.heap.size w w' → wpList P ops Q rest (a.put o1.dst (.slice (some ⟨w.heap.size, 0, none⟩) (n + m) c')) w') : wpList P ops Q (o1 :: rest) a w := by
  subst hn
  subst hl
  obtain ⟨c', w', hr, h2, h3⟩ := run_append_bs_grow (P := P) w t o1.type i ht hi hz hsz hby b o c xs hxs b2 o2 d l hls hm hc
  refine wpList_plain hgd fun K hK => ?_
  unfold Oper.wp execOp
  simp only [ho, resolve, invoke, builtin, Sem.run_bind, Sem.run_pure, Result.andThen_ok, List.map_toArray, List.map_cons, List.map_nil, hs, hx, hr]
  exact hK _ _ (h c' w' h2 h3)
end
end Go.Proofs.YtmnmmabhmedioaaDoor
