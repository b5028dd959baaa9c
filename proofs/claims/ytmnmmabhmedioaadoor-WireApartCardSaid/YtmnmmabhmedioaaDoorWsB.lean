/- Wire: what a message's fault and its body are, in plain Lean. -/
import Derived.Test.YtmnmmabhmedioaaDoorWsA
namespace Go.Proofs.YtmnmmabhmedioaaDoor
open Go.RowKit
set_option linter.unusedVariables false
set_option linter.unusedSimpArgs false

def kKind : List UInt8 := [107, 105, 110, 100]
def kFrom : List UInt8 := [102, 114, 111, 109]
def kTo : List UInt8 := [116, 111]
def kPair : List UInt8 := [112, 97, 105, 114]
def kList : List UInt8 := [108, 105, 115, 116]
def kText : List UInt8 := [116, 101, 120, 116]
def kCode : List UInt8 := [99, 111, 100, 101]
def kSum : List UInt8 := [115, 117, 109]
def kTail : List UInt8 := [116, 97, 105, 108]

def isId (n : Int) : Bool := decide (1 ≤ n) && decide (n ≤ 255)
theorem isId_true {n : Int} : isId n = true ↔ 1 ≤ n ∧ n ≤ 255 := by simp [isId]
theorem isId_false {n : Int} : isId n = false ↔ ¬ (1 ≤ n ∧ n ≤ 255) := by
  rw [← isId_true]
  simp
def pairL (p : Pair) : List UInt8 := u8 p.id :: (p.hid ++ p.bnd)
theorem pairL_len {p : Pair} (h : PairOk p) : (pairL p).length = 65 := by simp [pairL, h.1, h.2]
def pairsL (ps : List Pair) : List UInt8 := ps.flatMap pairL
/-- The first commitment of no identifier. -/
def listBad : Nat → List Pair → Option Nat
  | _, [] => none
  | i, p :: r => if isId p.id then listBad (i + 1) r else some i
/-- A message's first fault. -/
def faultM (m : Msg) : Option FD :=
  if ¬ (1 ≤ m.kind ∧ m.kind ≤ 6) then some ⟨kKind, 0, 152⟩
  else if ¬ (0 ≤ m.from_ ∧ m.from_ ≤ 255) then some ⟨kFrom, 0, 4⟩
  else if ¬ (0 ≤ m.to_ ∧ m.to_ ≤ 255) then some ⟨kTo, 0, 4⟩
  else if m.kind = 2 ∨ m.kind = 4 then (if isId m.pair.id then none else some ⟨kPair, 0, 4⟩)
  else if m.kind = 3 then
    (if 255 < m.list.length then some ⟨kList, 0, 8⟩ else match listBad 0 m.list with
      | some i => some ⟨kList, i, 4⟩
      | none => if 1048575 < m.text.length then some ⟨kText, 0, 10⟩ else none)
  else if m.kind = 5 then (if 1 ≤ m.code ∧ m.code ≤ 65535 then none else some ⟨kCode, 0, 1⟩)
  else none
/-- A message's body. -/
def restM (m : Msg) : List UInt8 :=
  if m.kind = 2 then pairL m.pair
  else if m.kind = 3 then [UInt8.ofNat m.list.length] ++ pairsL m.list ++ four m.text.length ++ m.text
  else if m.kind = 4 then pairL m.pair ++ m.bind_ ++ m.share
  else if m.kind = 5 then two m.code.toNat
  else if m.kind = 6 then m.sig
  else []
def bodyM (m : Msg) : List UInt8 := m.session ++ [u8 m.from_, u8 m.to_] ++ restM m
theorem listBad_lt : ∀ (ps : List Pair) (i k : Nat), listBad i ps = some k → i ≤ k ∧ k < i + ps.length ∧ isId (ps.getD (k - i) Pair.zero).id = false ∧ ∀ j, j < k - i → isId (ps.getD j Pair.zero).id = true
  | [], i, k, h => by simp [listBad] at h
  | p :: r, i, k, h => by
    unfold listBad at h
    by_cases hp : isId p.id = true
    · rw [if_pos hp] at h
      obtain ⟨h1, h2, h3, h4⟩ := listBad_lt r (i + 1) k h
      refine ⟨by omega, by simp; omega, ?_, fun j hj => ?_⟩
      · obtain ⟨q, hq⟩ : ∃ q, k - i = q + 1 := ⟨k - (i + 1), by omega⟩
        rw [hq]
        rw [show k - (i + 1) = q from by omega] at h3
        simpa using h3
      · cases j with
        | zero => simpa using hp
        | succ j => simpa using h4 j (by omega)
    · rw [if_neg hp] at h
      cases h
      refine ⟨Nat.le_refl _, by simp, ?_, fun j hj => by omega⟩
      simpa using hp
theorem listBad_none : ∀ (ps : List Pair) (i : Nat), listBad i ps = none → ∀ j, j < ps.length → isId (ps.getD j Pair.zero).id = true
  | [], i, h, j, hj => by simp at hj
  | p :: r, i, h, j, hj => by
    unfold listBad at h
    by_cases hp : isId p.id = true
    · rw [if_pos hp] at h
      cases j with
      | zero => simpa using hp
      | succ j => simpa using listBad_none r (i + 1) h j (by simpa using hj)
    · rw [if_neg hp] at h
      cases h
theorem pairsL_take_succ {ps : List Pair} {k : Nat} (h : k < ps.length) : pairsL (ps.take (k + 1)) = pairsL (ps.take k) ++ pairL (ps.getD k Pair.zero) := by
  unfold pairsL
  rw [List.take_succ_eq_append_getElem h, List.flatMap_append, List.getD_eq_getElem?_getD, List.getElem?_eq_getElem h]
  simp
theorem pairsL_len {ps : List Pair} (h : ∀ i, PairOk (ps.getD i Pair.zero)) : (pairsL ps).length = 65 * ps.length := by
  have hm : ∀ p ∈ ps, PairOk p := fun p hp => by
    obtain ⟨i, hi, rfl⟩ := List.mem_iff_getElem.1 hp
    have := h i
    rwa [List.getD_eq_getElem?_getD, List.getElem?_eq_getElem hi] at this
  clear h
  induction ps with
  | nil => rfl
  | cons p r ih =>
    have h1 := pairL_len (hm p (by simp))
    have h2 := ih (fun q hq => hm q (by simp [hq]))
    unfold pairsL at h2 ⊢
    rw [List.flatMap_cons, List.length_append, h1, h2, List.length_cons]
    omega
end Go.Proofs.YtmnmmabhmedioaaDoor
