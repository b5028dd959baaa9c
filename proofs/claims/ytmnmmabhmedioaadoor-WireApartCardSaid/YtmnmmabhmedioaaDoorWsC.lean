/- Wire: the reference's Check is the message's first fault. (Printed by gen_check.py.) -/
import Derived.Test.YtmnmmabhmedioaaDoorWsB
namespace Go.Proofs.YtmnmmabhmedioaaDoor
open Go.RowKit
set_option linter.unusedVariables false
set_option linter.unusedSimpArgs false
set_option maxRecDepth 100000

def fdA : Option FD → Array Value
  | none => #[.string ⟨#[]⟩, .int .i64 0, .int .i64 0]
  | some f => #[.string ⟨f.field.toArray⟩, .int .i64 f.at_, .int .i64 f.why]
theorem pairAt_id {w : World} {b o : Nat} {p : Pair} (h : RowAt w b o (pairA p)) : w.cell? ⟨b, o, none⟩ = some (.int .i64 p.id) :=
  h 0 _ (by unfold pairA; rw [Array.append_assoc, Array.getElem?_append_left (by simp)]; rfl)
theorem listBad_at : ∀ (ps : List Pair) (i k : Nat), k < ps.length → (∀ j, j < k → isId (ps.getD j Pair.zero).id = true) → isId (ps.getD k Pair.zero).id = false → listBad i ps = some (i + k)
  | [], i, k, h, _, _ => by simp at h
  | p :: r, i, 0, h, _, h2 => by
    have h2 : isId p.id = false := by simpa using h2
    simp [listBad, h2]
  | p :: r, i, k + 1, h, h1, h2 => by
    have h0 : isId p.id = true := by simpa using h1 0 (by omega)
    have := listBad_at r (i + 1) k (by simpa using h) (fun j hj => by simpa using h1 (j + 1) (by omega)) (by simpa using h2)
    simp [listBad, h0, this]
    omega
theorem listBad_all : ∀ (ps : List Pair) (i : Nat), (∀ j, j < ps.length → isId (ps.getD j Pair.zero).id = true) → listBad i ps = none
  | [], i, _ => rfl
  | p :: r, i, h => by
    have h0 : isId p.id = true := by simpa using h 0 (by simp)
    simp [listBad, h0, listBad_all r (i + 1) (fun j hj => by simpa using h (j + 1) (by simp; omega))]

set_option maxHeartbeats 8000000 in
theorem check_any (cs : Array Value) (m : Msg) (LA : Option Addr) (lc : Nat) (TA : Option Addr) (tc : Nat) (w : World) (hM : MsgIn w cs m LA lc TA tc) :
    Calls Tryd.prog 17 #[.agg cs] w fun e w' => e = .returned (.agg (fdA (faultM m))) ∧ Below w.heap.size w w' := by
  have hX : ((w.alloc (.cells cs 36)).alloc (.cells #[.string ⟨#[]⟩, .int .i64 0, .int .i64 0] 42)).heap[w.heap.size]? = some (.cells cs 36 (0, 0)) := by
    rw [heap_alloc?, if_neg (by simp)]; exact heap_alloc_new w _
  have hB : Below w.heap.size w ((w.alloc (.cells cs 36)).alloc (.cells #[.string ⟨#[]⟩, .int .i64 0, .int .i64 0] 42)) := later (boxed _ _) (boxed _ _)
  have hC := hM.cells
  have k0 := cell_of hX hC.kind
  have k33 := cell_of hX hC.from_
  have k34 := cell_of hX hC.to_
  have k35 := cell_of hX hC.pid
  have k100 := cell_of hX hC.list
  have k101 := cell_of hX hC.text
  have k230 := cell_of hX hC.code
  have hPs := Lib.hid (hM.list.on hB)
  replace hB := Lib.hid hB
  replace hC := Lib.hid hC
  replace hM := Lib.hid hM
  clear hX
  by_cases a1 : m.kind < 1
  · have hf : faultM m = some ⟨kKind, 0, 152⟩ := by
      unfold faultM
      rw [if_pos (by omega)]
    replace hf := Lib.hid hf
    go_enter Tryd.func17, Tryd.ntmps17
    go_wp2
    refine bodyPost_ret (v := .agg (fdA (faultM m))) ?_ rfl ⟨rfl, later (boxed _ _) (boxed _ _)⟩
    rw [hf.out]
    simp [results, Tryd.results17, go_sem, fdA, kKind, kFrom, kTo, kPair, kList, kText, kCode]
  by_cases a2 : 6 < m.kind
  · have hf : faultM m = some ⟨kKind, 0, 152⟩ := by
      unfold faultM
      rw [if_pos (by omega)]
    replace hf := Lib.hid hf
    go_enter Tryd.func17, Tryd.ntmps17
    go_wp2
    refine bodyPost_ret (v := .agg (fdA (faultM m))) ?_ rfl ⟨rfl, later (boxed _ _) (boxed _ _)⟩
    rw [hf.out]
    simp [results, Tryd.results17, go_sem, fdA, kKind, kFrom, kTo, kPair, kList, kText, kCode]
  by_cases b1 : m.from_ < 0
  · have hf : faultM m = some ⟨kFrom, 0, 4⟩ := by
      unfold faultM
      rw [if_neg (by omega), if_pos (by omega)]
    replace hf := Lib.hid hf
    go_enter Tryd.func17, Tryd.ntmps17
    go_wp2
    refine bodyPost_ret (v := .agg (fdA (faultM m))) ?_ rfl ⟨rfl, later (boxed _ _) (boxed _ _)⟩
    rw [hf.out]
    simp [results, Tryd.results17, go_sem, fdA, kKind, kFrom, kTo, kPair, kList, kText, kCode]
  by_cases b2 : 255 < m.from_
  · have hf : faultM m = some ⟨kFrom, 0, 4⟩ := by
      unfold faultM
      rw [if_neg (by omega), if_pos (by omega)]
    replace hf := Lib.hid hf
    go_enter Tryd.func17, Tryd.ntmps17
    go_wp2
    refine bodyPost_ret (v := .agg (fdA (faultM m))) ?_ rfl ⟨rfl, later (boxed _ _) (boxed _ _)⟩
    rw [hf.out]
    simp [results, Tryd.results17, go_sem, fdA, kKind, kFrom, kTo, kPair, kList, kText, kCode]
  by_cases c1 : m.to_ < 0
  · have hf : faultM m = some ⟨kTo, 0, 4⟩ := by
      unfold faultM
      rw [if_neg (by omega), if_neg (by omega), if_pos (by omega)]
    replace hf := Lib.hid hf
    go_enter Tryd.func17, Tryd.ntmps17
    go_wp2
    refine bodyPost_ret (v := .agg (fdA (faultM m))) ?_ rfl ⟨rfl, later (boxed _ _) (boxed _ _)⟩
    rw [hf.out]
    simp [results, Tryd.results17, go_sem, fdA, kKind, kFrom, kTo, kPair, kList, kText, kCode]
  by_cases c2 : 255 < m.to_
  · have hf : faultM m = some ⟨kTo, 0, 4⟩ := by
      unfold faultM
      rw [if_neg (by omega), if_neg (by omega), if_pos (by omega)]
    replace hf := Lib.hid hf
    go_enter Tryd.func17, Tryd.ntmps17
    go_wp2
    refine bodyPost_ret (v := .agg (fdA (faultM m))) ?_ rfl ⟨rfl, later (boxed _ _) (boxed _ _)⟩
    rw [hf.out]
    simp [results, Tryd.results17, go_sem, fdA, kKind, kFrom, kTo, kPair, kList, kText, kCode]
  have hd : m.kind = 1 ∨ m.kind = 2 ∨ m.kind = 3 ∨ m.kind = 4 ∨ m.kind = 5 ∨ m.kind = 6 := by omega
  rcases hd with hk | hk | hk | hk | hk | hk
  all_goals
    rw [hk] at k0
    clear a1 a2
  · have hf : faultM m = none := by
      unfold faultM
      rw [if_neg (by omega), if_neg (by omega), if_neg (by omega), if_neg (by omega), if_neg (by omega), if_neg (by omega)]
    replace hf := Lib.hid hf
    go_enter Tryd.func17, Tryd.ntmps17
    go_wp2
    refine bodyPost_ret (v := .agg (fdA (faultM m))) ?_ rfl ⟨rfl, later (boxed _ _) (boxed _ _)⟩
    rw [hf.out]
    simp [results, Tryd.results17, go_sem, fdA, kKind, kFrom, kTo, kPair, kList, kText, kCode]
  · by_cases d1 : m.pair.id < 1
    · have hf : faultM m = some ⟨kPair, 0, 4⟩ := by
        unfold faultM
        rw [if_neg (by omega), if_neg (by omega), if_neg (by omega), if_pos (by omega), if_neg (by simp [isId]; omega)]
      replace hf := Lib.hid hf
      go_enter Tryd.func17, Tryd.ntmps17
      go_wp2
      refine bodyPost_ret (v := .agg (fdA (faultM m))) ?_ rfl ⟨rfl, later (boxed _ _) (boxed _ _)⟩
      rw [hf.out]
      simp [results, Tryd.results17, go_sem, fdA, kKind, kFrom, kTo, kPair, kList, kText, kCode]
    by_cases d2 : 255 < m.pair.id
    · have hf : faultM m = some ⟨kPair, 0, 4⟩ := by
        unfold faultM
        rw [if_neg (by omega), if_neg (by omega), if_neg (by omega), if_pos (by omega), if_neg (by simp [isId]; omega)]
      replace hf := Lib.hid hf
      go_enter Tryd.func17, Tryd.ntmps17
      go_wp2
      refine bodyPost_ret (v := .agg (fdA (faultM m))) ?_ rfl ⟨rfl, later (boxed _ _) (boxed _ _)⟩
      rw [hf.out]
      simp [results, Tryd.results17, go_sem, fdA, kKind, kFrom, kTo, kPair, kList, kText, kCode]
    · have hf : faultM m = none := by
        unfold faultM
        rw [if_neg (by omega), if_neg (by omega), if_neg (by omega), if_pos (by omega), if_pos (by simp [isId]; omega)]
      replace hf := Lib.hid hf
      go_enter Tryd.func17, Tryd.ntmps17
      go_wp2
      refine bodyPost_ret (v := .agg (fdA (faultM m))) ?_ rfl ⟨rfl, later (boxed _ _) (boxed _ _)⟩
      rw [hf.out]
      simp [results, Tryd.results17, go_sem, fdA, kKind, kFrom, kTo, kPair, kList, kText, kCode]
  · by_cases d1 : 255 < m.list.length
    · have hf : faultM m = some ⟨kList, 0, 8⟩ := by
        unfold faultM
        rw [if_neg (by omega), if_neg (by omega), if_neg (by omega), if_neg (by omega), if_pos (by omega), if_pos d1]
      replace hf := Lib.hid hf
      go_enter Tryd.func17, Tryd.ntmps17
      go_wp2
      refine bodyPost_ret (v := .agg (fdA (faultM m))) ?_ rfl ⟨rfl, later (boxed _ _) (boxed _ _)⟩
      rw [hf.out]
      simp [results, Tryd.results17, go_sem, fdA, kKind, kFrom, kTo, kPair, kList, kText, kCode]
    have d2 : m.list.length ≤ 255 := by omega
    go_enter Tryd.func17, Tryd.ntmps17
    go_wp2
    go_loop [3] (fun i => ∃ k : Nat, k ≤ m.list.length ∧ i = .int .i64 k ∧ Hid (∀ j, j < k → isId (m.list.getD j Pair.zero).id = true)) (fun i => m.list.length - (intOf i).toNat)
    case atStart => exact ⟨0, Nat.zero_le _, rfl, Lib.hid fun j hj => absurd hj (by omega)⟩
    case round =>
      obtain ⟨k, hk1, rfl, hall⟩ := hrel
      rcases Nat.lt_or_ge k m.list.length with hlt | hge
      · obtain ⟨b, o, rfl, hc⟩ := hPs.out (by omega)
        have c0 := pairAt_id (hc k hlt)
        clear hc
        have q1 : (0 : Int) ≤ (k : Int) := by omega
        have q2 : (k : Int) < (m.list.length : Int) := by omega
        by_cases e1 : (m.list.getD k Pair.zero).id < 1
        · have hf : faultM m = some ⟨kList, k, 4⟩ := by
            unfold faultM
            rw [if_neg (by omega), if_neg (by omega), if_neg (by omega), if_neg (by omega), if_pos (by omega), if_neg d1, listBad_at m.list 0 k hlt hall.out (isId_false.2 (by omega)), Nat.zero_add]
          replace hf := Lib.hid hf
          generalize (m.list.getD k Pair.zero).id = x at c0 e1
          go_wp2
          refine bodyPost_ret (v := .agg (fdA (faultM m))) ?_ rfl ⟨rfl, later (boxed _ _) (boxed _ _)⟩
          rw [hf.out]
          simp [results, Tryd.results17, go_sem, fdA, kList]
        by_cases e2 : 255 < (m.list.getD k Pair.zero).id
        · have hf : faultM m = some ⟨kList, k, 4⟩ := by
            unfold faultM
            rw [if_neg (by omega), if_neg (by omega), if_neg (by omega), if_neg (by omega), if_pos (by omega), if_neg d1, listBad_at m.list 0 k hlt hall.out (isId_false.2 (by omega)), Nat.zero_add]
          replace hf := Lib.hid hf
          generalize (m.list.getD k Pair.zero).id = x at c0 e1 e2
          go_wp2
          refine bodyPost_ret (v := .agg (fdA (faultM m))) ?_ rfl ⟨rfl, later (boxed _ _) (boxed _ _)⟩
          rw [hf.out]
          simp [results, Tryd.results17, go_sem, fdA, kList]
        · have hall2 : Hid (∀ j, j < k + 1 → isId (m.list.getD j Pair.zero).id = true) := Lib.hid fun j hj => by
            by_cases h : j < k
            · exact hall.out j h
            · obtain rfl : j = k := by omega
              simp [isId]
              simp only [List.getD_eq_getElem?_getD] at e1 e2
              omega
          generalize (m.list.getD k Pair.zero).id = x at c0 e1 e2
          go_wp2
          go_round
          case rel => exact ⟨k + 1, by omega, by go_num, hall2⟩
          case measure => simp [intOf]; omega
      · have : k = m.list.length := by omega
        subst this
        have hno := listBad_all m.list 0 hall.out
        by_cases e1 : 1048575 < m.text.length
        · have hf : faultM m = some ⟨kText, 0, 10⟩ := by
            unfold faultM
            rw [if_neg (by omega), if_neg (by omega), if_neg (by omega), if_neg (by omega), if_pos (by omega), if_neg d1, hno]
            simp [e1]
          replace hf := Lib.hid hf
          replace hno := Lib.hid hno
          go_wp2
          refine bodyPost_ret (v := .agg (fdA (faultM m))) ?_ rfl ⟨rfl, later (boxed _ _) (boxed _ _)⟩
          rw [hf.out]
          simp [results, Tryd.results17, go_sem, fdA, kText]
        · have hf : faultM m = none := by
            unfold faultM
            rw [if_neg (by omega), if_neg (by omega), if_neg (by omega), if_neg (by omega), if_pos (by omega), if_neg d1, hno]
            simp [e1]
          replace hf := Lib.hid hf
          replace hno := Lib.hid hno
          go_wp2
          refine bodyPost_ret (v := .agg (fdA (faultM m))) ?_ rfl ⟨rfl, later (boxed _ _) (boxed _ _)⟩
          rw [hf.out]
          simp [results, Tryd.results17, go_sem, fdA]
  · by_cases d1 : m.pair.id < 1
    · have hf : faultM m = some ⟨kPair, 0, 4⟩ := by
        unfold faultM
        rw [if_neg (by omega), if_neg (by omega), if_neg (by omega), if_pos (by omega), if_neg (by simp [isId]; omega)]
      replace hf := Lib.hid hf
      go_enter Tryd.func17, Tryd.ntmps17
      go_wp2
      refine bodyPost_ret (v := .agg (fdA (faultM m))) ?_ rfl ⟨rfl, later (boxed _ _) (boxed _ _)⟩
      rw [hf.out]
      simp [results, Tryd.results17, go_sem, fdA, kKind, kFrom, kTo, kPair, kList, kText, kCode]
    by_cases d2 : 255 < m.pair.id
    · have hf : faultM m = some ⟨kPair, 0, 4⟩ := by
        unfold faultM
        rw [if_neg (by omega), if_neg (by omega), if_neg (by omega), if_pos (by omega), if_neg (by simp [isId]; omega)]
      replace hf := Lib.hid hf
      go_enter Tryd.func17, Tryd.ntmps17
      go_wp2
      refine bodyPost_ret (v := .agg (fdA (faultM m))) ?_ rfl ⟨rfl, later (boxed _ _) (boxed _ _)⟩
      rw [hf.out]
      simp [results, Tryd.results17, go_sem, fdA, kKind, kFrom, kTo, kPair, kList, kText, kCode]
    · have hf : faultM m = none := by
        unfold faultM
        rw [if_neg (by omega), if_neg (by omega), if_neg (by omega), if_pos (by omega), if_pos (by simp [isId]; omega)]
      replace hf := Lib.hid hf
      go_enter Tryd.func17, Tryd.ntmps17
      go_wp2
      refine bodyPost_ret (v := .agg (fdA (faultM m))) ?_ rfl ⟨rfl, later (boxed _ _) (boxed _ _)⟩
      rw [hf.out]
      simp [results, Tryd.results17, go_sem, fdA, kKind, kFrom, kTo, kPair, kList, kText, kCode]
  · by_cases d1 : m.code < 1
    · have hf : faultM m = some ⟨kCode, 0, 1⟩ := by
        unfold faultM
        rw [if_neg (by omega), if_neg (by omega), if_neg (by omega), if_neg (by omega), if_neg (by omega), if_pos (by omega), if_neg (by omega)]
      replace hf := Lib.hid hf
      go_enter Tryd.func17, Tryd.ntmps17
      go_wp2
      refine bodyPost_ret (v := .agg (fdA (faultM m))) ?_ rfl ⟨rfl, later (boxed _ _) (boxed _ _)⟩
      rw [hf.out]
      simp [results, Tryd.results17, go_sem, fdA, kKind, kFrom, kTo, kPair, kList, kText, kCode]
    by_cases d2 : 65535 < m.code
    · have hf : faultM m = some ⟨kCode, 0, 1⟩ := by
        unfold faultM
        rw [if_neg (by omega), if_neg (by omega), if_neg (by omega), if_neg (by omega), if_neg (by omega), if_pos (by omega), if_neg (by omega)]
      replace hf := Lib.hid hf
      go_enter Tryd.func17, Tryd.ntmps17
      go_wp2
      refine bodyPost_ret (v := .agg (fdA (faultM m))) ?_ rfl ⟨rfl, later (boxed _ _) (boxed _ _)⟩
      rw [hf.out]
      simp [results, Tryd.results17, go_sem, fdA, kKind, kFrom, kTo, kPair, kList, kText, kCode]
    · have hf : faultM m = none := by
        unfold faultM
        rw [if_neg (by omega), if_neg (by omega), if_neg (by omega), if_neg (by omega), if_neg (by omega), if_pos (by omega), if_pos (by omega)]
      replace hf := Lib.hid hf
      go_enter Tryd.func17, Tryd.ntmps17
      go_wp2
      refine bodyPost_ret (v := .agg (fdA (faultM m))) ?_ rfl ⟨rfl, later (boxed _ _) (boxed _ _)⟩
      rw [hf.out]
      simp [results, Tryd.results17, go_sem, fdA, kKind, kFrom, kTo, kPair, kList, kText, kCode]
  · have hf : faultM m = none := by
      unfold faultM
      rw [if_neg (by omega), if_neg (by omega), if_neg (by omega), if_neg (by omega), if_neg (by omega), if_neg (by omega)]
    replace hf := Lib.hid hf
    go_enter Tryd.func17, Tryd.ntmps17
    go_wp2
    refine bodyPost_ret (v := .agg (fdA (faultM m))) ?_ rfl ⟨rfl, later (boxed _ _) (boxed _ _)⟩
    rw [hf.out]
    simp [results, Tryd.results17, go_sem, fdA, kKind, kFrom, kTo, kPair, kList, kText, kCode]
end Go.Proofs.YtmnmmabhmedioaaDoor
