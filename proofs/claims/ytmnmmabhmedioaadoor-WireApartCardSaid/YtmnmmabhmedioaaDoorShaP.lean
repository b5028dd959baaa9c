/- SHA-512: blocks of a text, pure. -/
import Derived.Test.YtmnmmabhmedioaaDoorShaD
import Derived.Test.YtmnmmabhmedioaaDoorBytes
namespace Go.Proofs.YtmnmmabhmedioaaDoor
open Go.RowKit
set_option linter.unusedVariables false
set_option linter.unusedSimpArgs false

/-- How many zeros; a number's bytes, the highest first; what is laid behind n bytes. -/
def padZ (n : Nat) : Nat := (239 - n % 128) % 128
def be8 (x : UInt64) (k : Nat) : List UInt8 := (List.range k).map fun j => (x >>> UInt64.ofNat (8 * (7 - j))).toUInt8
def padL (x : UInt64) : List UInt8 := 128 :: List.replicate (padZ x.toNat) 0 ++ List.replicate 8 0 ++ be8 (x * 8) 8
theorem be8_succ (x : UInt64) (k : Nat) : be8 x (k + 1) = be8 x k ++ [(x >>> UInt64.ofNat (8 * (7 - k))).toUInt8] := by simp [be8, List.range_succ]
theorem be8_length (x : UInt64) (k : Nat) : (be8 x k).length = k := by simp [be8]
theorem padL_length (x : UInt64) : (padL x).length = padZ x.toNat + 17 := by simp [padL, be8_length]
theorem padL_mod (x : UInt64) : (x.toNat + (padL x).length) % 128 = 0 := by rw [padL_length]; unfold padZ; omega

/-- The state behind the first blocks of a text. -/
def absN (s : St) (l : List UInt8) : Nat → St
  | 0 => s
  | k + 1 => blockF (absN s l k) ((l.drop (128 * k)).take 128)
theorem absN_append (s : St) (l x : List UInt8) (k : Nat) (h : 128 * k ≤ l.length) : absN s (l ++ x) k = absN s l k := by
  induction k with
  | zero => rfl
  | succ k ih =>
    simp only [absN]
    rw [ih (by omega), List.drop_append_of_le_length (by omega), List.take_append_of_le_length (by simp; omega)]
def stOf (M : List UInt8) : St := absN H0 M (M.length / 128)
def tailOf (M : List UInt8) : List UInt8 := M.drop (128 * (M.length / 128))
theorem tailOf_length (M : List UInt8) : (tailOf M).length = M.length % 128 := by simp [tailOf]; omega
theorem tailOf_lt (M : List UInt8) : (tailOf M).length < 128 := by rw [tailOf_length]; omega
theorem stOf_nil : stOf [] = H0 := rfl
theorem tailOf_nil : tailOf [] = [] := rfl
/-- Nothing full. -/
theorem feed_short {M l : List UInt8} (h : (tailOf M).length + l.length < 128) : stOf (M ++ l) = stOf M ∧ tailOf (M ++ l) = tailOf M ++ l := by
  have e : (M ++ l).length / 128 = M.length / 128 := by rw [tailOf_length] at h; simp; omega
  unfold stOf tailOf
  rw [e]
  exact ⟨absN_append _ _ _ _ (by omega), List.drop_append_of_le_length (by omega)⟩
/-- Whole blocks were taken. -/
theorem feed_even {M l : List UInt8} : stOf M = absN H0 (M ++ l) (M.length / 128) ∧ tailOf M ++ l = (M ++ l).drop (128 * (M.length / 128)) :=
  ⟨(absN_append _ _ _ _ (by omega)).symm, (List.drop_append_of_le_length (by omega)).symm⟩
/-- The tail is filled. -/
theorem feed_fill {M l : List UInt8} (k : Nat) (hk : (tailOf M).length + k = 128) (hl : k ≤ l.length) :
    blockF (stOf M) (tailOf M ++ l.take k) = absN H0 (M ++ l) (M.length / 128 + 1) ∧ l.drop k = (M ++ l).drop (128 * (M.length / 128 + 1)) := by
  have e := (feed_even (M := M) (l := l)).1
  have e2 := (feed_even (M := M) (l := l)).2
  generalize tailOf M = t at hk e2 ⊢
  constructor
  · simp only [absN]
    rw [← e, ← e2]
    have h : t ++ l.take k = (t ++ l).take 128 := by
      rw [List.take_append, List.take_of_length_le (show t.length ≤ 128 by omega), show 128 - t.length = k from by omega]
    rw [h]
  · have h : (M ++ l).drop (128 * (M.length / 128 + 1)) = (t ++ l).drop 128 := by
      rw [e2, List.drop_drop]
      congr 1
    rw [h, List.drop_append, List.drop_of_length_le (show t.length ≤ 128 by omega), List.nil_append]
    congr 1
    omega
theorem feed_step {M : List UInt8} (j : Nat) : blockF (absN H0 M j) ((M.drop (128 * j)).take 128) = absN H0 M (j + 1) ∧ (M.drop (128 * j)).drop 128 = M.drop (128 * (j + 1)) :=
  ⟨rfl, by rw [List.drop_drop, Nat.mul_add]⟩
theorem feed_end {M : List UInt8} {j : Nat} (h : 128 * j ≤ M.length) (h2 : (M.drop (128 * j)).length < 128) : absN H0 M j = stOf M ∧ M.drop (128 * j) = tailOf M := by
  have : j = M.length / 128 := by simp at h2; omega
  subst this
  exact ⟨rfl, rfl⟩
/-- The digest's bytes. -/
def digL (s : St) (k : Nat) : List UInt8 := (List.range k).map fun i => (s.get (i / 8) >>> UInt64.ofNat (56 - 8 * (i % 8))).toUInt8
theorem digL_length (s : St) (k : Nat) : (digL s k).length = k := by simp [digL]
/-- SHA-512. -/
def sha (M : List UInt8) : List UInt8 := digL (stOf (M ++ padL (UInt64.ofNat M.length))) 64
theorem sha_length (M : List UInt8) : (sha M).length = 64 := digL_length _ _
end Go.Proofs.YtmnmmabhmedioaaDoor
