/- Wire: the reader takes a field. -/
import Derived.Test.YtmnmmabhmedioaaDoorWrE
namespace Go.Proofs.YtmnmmabhmedioaaDoor
open Go.RowKit
set_option linter.unusedVariables false
set_option linter.unusedSimpArgs false
set_option maxRecDepth 100000

/-- The reader's block. -/
structure Rdr (w : World) (R b o N c at_ : Nat) (rs : Array Value) : Prop where
  hR : w.heap[R]? = some (.cells rs 107 (0, 0))
  r0 : rs[0]? = some (.slice (some ⟨b, o, none⟩) N c)
  r1 : rs[1]? = some (.int .i64 (at_ : Int))

set_option maxHeartbeats 8000000 in
theorem take_ok (R b o N c at_ n : Nat) (rs : Array Value) (w : World) (field from_ : Value) (h : Rdr w R b o N c at_ rs) (hn : at_ + n ≤ N) (hN : N < c) (hc : N ≤ 1099511627776) :
    Calls Tryd.prog 40 #[.pointer (some ⟨R, 0, none⟩), field, from_, .int .i64 (n : Int)] w fun e w' =>
      e = .returned (.slice (some ⟨b, o + at_, none⟩) n (c - at_)) ∧ w'.heap[R]? = some (.cells (rs.setIfInBounds 1 (.int .i64 ((at_ + n : Nat) : Int))) 107 (0, 0)) ∧ Keep (fun k => k = R) w w' := by
  have c0 : w.cell? ⟨R, 0, none⟩ = some (.slice (some ⟨b, o, none⟩) N c) := cell_of h.hR h.r0
  have c1 : w.cell? ⟨R, 1, none⟩ = some (.int .i64 (at_ : Int)) := cell_of h.hR h.r1
  have cf : w.frozen? ⟨R, 1, none⟩ = false := free_of h.hR
  have hw1 : wrap64 ((N : Int) - (at_ : Int)) = (N : Int) - (at_ : Int) := IntWalk.wrap64_in _ ⟨by omega, by omega⟩
  have hle : (n : Int) ≤ (N : Int) - (at_ : Int) := by omega
  have hw2 : wrap64 ((at_ : Int) + (n : Int)) = ((at_ + n : Nat) : Int) := by rw [IntWalk.wrap64_in _ ⟨by omega, by omega⟩]; omega
  have hr0 := Lib.hid h.r0
  have hr1 := Lib.hid h.r1
  replace h := Lib.hid h.hR
  go_enter Tryd.func40, Tryd.ntmps40
  go_wp2_with fail
  go_quiet ((go_at_call 38; exact Calls.quiet_of_same (need_same _ _ _ _)))
  have d0 : (w.drewN nq).cell? ⟨R, 0, none⟩ = some (.slice (some ⟨b, o, none⟩) N c) := c0
  have d1 : (w.drewN nq).cell? ⟨R, 1, none⟩ = some (.int .i64 (at_ : Int)) := c1
  have df : (w.drewN nq).frozen? ⟨R, 1, none⟩ = false := cf
  have dh : Hid ((w.drewN nq).heap[R]? = some (.cells rs 107 (0, 0))) := Lib.hid h.out
  have hK : Hid (Keep (fun k => k = R) w (w.drewN nq)) := Lib.hid (Keep.drewN nq)
  clear c0 c1 cf h hle
  generalize w.drewN nq = w2 at d0 d1 df dh hK ⊢
  go_upto_region 3 with fail
  have hh := heap_set (o := 1) dh.out (.int .i64 ((at_ : Int) + (n : Int)))
  have hK3 := hK.out.trans (Keep.set (fun k => k = R) R 1 (.int .i64 ((at_ : Int) + (n : Int))) rfl)
  have e0 : (w2.setCell ⟨R, 1, none⟩ (.int .i64 ((at_ : Int) + (n : Int)))).cell? ⟨R, 0, none⟩ = some (.slice (some ⟨b, o, none⟩) N c) := cell_of hh (by rw [Array.getElem?_setIfInBounds_ne (by decide)]; exact hr0.out)
  have e1 : (w2.setCell ⟨R, 1, none⟩ (.int .i64 ((at_ : Int) + (n : Int)))).cell? ⟨R, 1, none⟩ = some (.int .i64 ((at_ : Int) + (n : Int))) := cell_of hh (by
    have : 1 < rs.size := by
      rcases Nat.lt_or_ge 1 rs.size with h' | h'
      · exact h'
      · rw [Array.getElem?_eq_none h'] at hr1
        exact absurd hr1.out (by simp)
    rw [Array.getElem?_setIfInBounds_self_of_lt this])
  replace hh := Lib.hid hh
  replace hK3 := Lib.hid hK3
  clear d0 d1 df dh hK hw1 hw2
  generalize w2.setCell ⟨R, 1, none⟩ (.int .i64 ((at_ : Int) + (n : Int))) = w3 at e0 e1 hh hK3 ⊢
  have hw3 : wrap64 ((at_ : Int) + (n : Int) - (n : Int)) = (at_ : Int) := by rw [IntWalk.wrap64_in _ ⟨by omega, by omega⟩]; omega
  have g1 : (at_ : Int) ≤ (at_ : Int) + (n : Int) := by omega
  have g2 : (at_ : Int) + (n : Int) ≤ (c : Int) := by omega
  have g3 : ¬ (c = at_) := by omega
  have g4 : (0 : Int) ≤ (at_ : Int) := by omega
  have g5 : ((at_ : Int) + (n : Int)).toNat - at_ = n := by omega
  go_wp2_with fail
  go_quiet (fail)
  go_wp2_with fail
  go_ret
  exact ⟨rfl, by rw [Int.natCast_add]; exact hh.out, hK3.out.trans (Keep.drewN nq)⟩

/-! ### a block's cells, replaced from an offset on -/
def setRange (cs : Array Value) : Nat → List Value → Array Value
  | _, [] => cs
  | o, v :: r => setRange (cs.setIfInBounds o v) (o + 1) r
theorem setRange_size (cs : Array Value) (o : Nat) (vs : List Value) : (setRange cs o vs).size = cs.size := by
  induction vs generalizing cs o with
  | nil => rfl
  | cons v r ih => rw [setRange, ih]; simp
theorem setRange_out (cs : Array Value) (o : Nat) (vs : List Value) (j : Nat) (h : j < o ∨ o + vs.length ≤ j) : (setRange cs o vs)[j]? = cs[j]? := by
  induction vs generalizing cs o with
  | nil => rfl
  | cons v r ih =>
    simp only [List.length_cons] at h
    rw [setRange, ih _ _ (by omega), Array.getElem?_setIfInBounds_ne (by omega)]
theorem setRange_in (cs : Array Value) (o : Nat) (vs : List Value) (j : Nat) (h : j < vs.length) (hs : o + vs.length ≤ cs.size) : (setRange cs o vs)[o + j]? = vs[j]? := by
  induction vs generalizing cs o j with
  | nil => simp at h
  | cons v r ih =>
    simp only [List.length_cons] at h hs
    cases j with
    | zero =>
      rw [setRange, setRange_out _ _ _ _ (by omega), Nat.add_zero, Array.getElem?_setIfInBounds_self_of_lt (by omega)]
      rfl
    | succ j =>
      rw [setRange, show o + (j + 1) = o + 1 + j from by omega, ih _ _ _ (by omega) (by simp; omega)]
      rfl
theorem setCells_heap (w : World) (b o : Nat) (vs : List Value) {cs : Array Value} {T : TypeId} {fz : Nat × Nat} (h : w.heap[b]? = some (.cells cs T fz)) : (w.setCells b o vs).heap[b]? = some (.cells (setRange cs o vs) T fz) := by
  induction vs generalizing w o cs with
  | nil => exact h
  | cons v r ih => exact ih _ _ (heap_set h v)
theorem setCells_keep (w : World) (b o : Nat) (vs : List Value) : Keep (fun k => k = b) w (w.setCells b o vs) := by
  induction vs generalizing w o with
  | nil => exact Keep.refl _ _
  | cons v r ih => exact (Keep.set (fun k => k = b) b o v rfl).trans (ih _ _)
theorem there_of {w : World} {b : Nat} {cs : Array Value} {T : TypeId} (h : w.heap[b]? = some (.cells cs T (0, 0))) (o n : Nat) (hn : o + n ≤ cs.size) : w.there b o n := fun j hj => by
  refine ⟨?_, free_of h⟩
  have : o + j < cs.size := by omega
  rw [cell_of h (Array.getElem?_eq_getElem this)]
  rfl
theorem Bs.range {w : World} {b o : Nat} {l : List UInt8} (h : Bs w (some ⟨b, o, none⟩) l) : w.rangeAt b o (l.map B8) := fun j v hv => by
  have hj : j < l.length := by
    rcases Nat.lt_or_ge j l.length with h' | h'
    · exact h'
    · rw [List.getElem?_eq_none (by simpa using h')] at hv; cases hv
  rw [h.at j hj]
  rw [List.getElem?_map, List.getElem?_eq_getElem hj] at hv
  simp only [Option.map_some, Option.some.injEq] at hv
  rw [← hv, List.getD_eq_getElem?_getD, List.getElem?_eq_getElem hj]
  rfl
end Go.Proofs.YtmnmmabhmedioaaDoor
