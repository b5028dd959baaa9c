/- What the texts of rules are: plain Lean, no program in sight. -/
import Derived.Test.YtabinbeohecebaaDoorRuB
import Derived.Lib.ItoaNum
import Derived.Lib.ItoaMem
namespace Go.Proofs.YtabinbeohecebaaDoor
open Go.RowKit
set_option linter.unusedVariables false
set_option linter.unusedSimpArgs false

/-- The digits; a byte in two digits; a row of bytes. -/
def dg16 : List UInt8 := [48, 49, 50, 51, 52, 53, 54, 55, 56, 57, 97, 98, 99, 100, 101, 102]
def hexD (x : UInt8) : List UInt8 := [dg16.getD (x.toNat / 16) 0, dg16.getD (x.toNat % 16) 0]
def hexL (l : List UInt8) : List UInt8 := l.flatMap hexD
theorem hexL_snoc (l : List UInt8) (x : UInt8) : hexL (l ++ [x]) = hexL l ++ hexD x := by simp [hexL]
theorem hexL_length (l : List UInt8) : (hexL l).length = 2 * l.length := by
  induction l with
  | nil => rfl
  | cons x l ih => simp only [hexL, List.flatMap_cons, List.length_append, List.length_cons] at ih ⊢; rw [ih]; simp [hexD]; omega
theorem hexL_take_succ {l : List UInt8} {k : Nat} (h : k < l.length) : hexL (l.take (k + 1)) = hexL (l.take k) ++ hexD (l.getD k 0) := by
  rw [List.take_succ_eq_append_getElem h, hexL_snoc, List.getD_eq_getElem?_getD, List.getElem?_eq_getElem h]; rfl

def kAllow : List UInt8 := [97, 108, 108, 111, 119]
def kDeny : List UInt8 := [100, 101, 110, 121]
def kPrefix : List UInt8 := [32, 112, 114, 101, 102, 105, 120, 32]
def kMost : List UInt8 := [32, 109, 111, 115, 116, 32]
def kAppr : List UInt8 := [32, 97, 112, 112, 114, 111, 118, 97, 108, 115, 32]
def kRate : List UInt8 := [32, 114, 97, 116, 101, 32]
def kWindow : List UInt8 := [32, 119, 105, 110, 100, 111, 119, 32]
/-- A rule's line. -/
def lineL (al : Bool) (pf : List UInt8) (mo ap ra wi : Int) : List UInt8 :=
  (if al then kAllow else kDeny) ++ (if 0 < pf.length then kPrefix ++ hexL pf else []) ++ (kMost ++ Lib.itoa mo) ++ (if 0 < ap then kAppr ++ Lib.itoa ap else []) ++
    (if 0 < ra then kRate ++ Lib.itoa ra ++ kWindow ++ Lib.itoa wi else [])
def lineR (r : RD) : List UInt8 := lineL r.al r.pf r.mo r.ap r.ra r.wi
def textL (rs : List RD) : List UInt8 := rs.flatMap fun r => lineR r ++ [10]
theorem textL_take_succ {rs : List RD} {k : Nat} (h : k < rs.length) : textL (rs.take (k + 1)) = textL (rs.take k) ++ (lineR (rs.getD k RD.zero) ++ [10]) := by
  rw [List.take_succ_eq_append_getElem h, List.getD_eq_getElem?_getD, List.getElem?_eq_getElem h]; simp only [textL, List.flatMap_append, List.flatMap_cons, List.flatMap_nil, List.append_nil, Option.getD_some]

theorem nDigits_le {u k : Nat} (h : u < 10 ^ (k + 1)) : Lib.nDigits u ≤ k + 1 := by
  induction k generalizing u with
  | zero => rw [Lib.nDigits_small (by simpa using h)]; exact Nat.le_refl _
  | succ k ih =>
    by_cases h10 : u < 10
    · rw [Lib.nDigits_small h10]; omega
    · rw [Lib.nDigits_big h10]
      have := ih (u := u / 10) (by rw [Nat.pow_succ] at h; omega)
      omega
/-- A number that may be in a rule has at most ten digits. -/
theorem itoa_len {n : Int} (h0 : 0 ≤ n) (h1 : n ≤ 2147483647) : (Lib.itoa n).length ≤ 10 := by
  obtain ⟨m, rfl⟩ := Int.eq_ofNat_of_zero_le h0
  rw [Lib.itoa_nonneg, Lib.decDigits_length]
  exact nDigits_le (k := 9) (by omega)

theorem btw_iff {n m : Int} (h : btw n m = true) : 0 ≤ n ∧ n ≤ m := by simpa [btw] using h
theorem mayB_bd {al : Bool} {n : Nat} {mo ap ra wi : Int} (h : mayB al n mo ap ra wi = true) :
    n ≤ 64 ∧ (0 ≤ mo ∧ mo ≤ 1048575) ∧ (0 ≤ ap ∧ ap ≤ 16) ∧ (0 ≤ ra ∧ ra ≤ 4096) ∧ (0 ≤ wi ∧ wi ≤ 2147483647) := by
  simp only [mayB, Bool.and_eq_true, decide_eq_true_eq] at h
  obtain ⟨⟨⟨⟨⟨⟨a, b⟩, c⟩, d⟩, e⟩, -⟩, -⟩ := h
  exact ⟨a, btw_iff b, btw_iff c, btw_iff d, btw_iff e⟩

theorem lineL_len {al : Bool} {pf : List UInt8} {mo ap ra wi : Int} (h : mayB al pf.length mo ap ra wi = true) : (lineL al pf mo ap ra wi).length ≤ 250 := by
  obtain ⟨a, ⟨b, b'⟩, ⟨c, c'⟩, ⟨d, d'⟩, ⟨e, e'⟩⟩ := mayB_bd h
  have h1 := itoa_len b (by omega)
  have h2 := itoa_len c (by omega)
  have h3 := itoa_len d (by omega)
  have h4 := itoa_len e e'
  have h5 := hexL_length pf
  have f1 : (if al = true then kAllow else kDeny).length ≤ 5 := by cases al <;> decide
  have f2 : (if 0 < pf.length then kPrefix ++ hexL pf else []).length ≤ 136 := by split <;> simp [kPrefix]; omega
  have f3 : (if 0 < ap then kAppr ++ Lib.itoa ap else []).length ≤ 21 := by split <;> simp [kAppr]; omega
  have f4 : (if 0 < ra then kRate ++ Lib.itoa ra ++ kWindow ++ Lib.itoa wi else []).length ≤ 34 := by split <;> simp [kRate, kWindow]; omega
  have f5 : kMost.length = 6 := rfl
  unfold lineL
  simp only [List.length_append]
  omega
theorem textL_len {rs : List RD} (h : rs.all mayR = true) : (textL rs).length ≤ 251 * rs.length := by
  induction rs with
  | nil => simp [textL]
  | cons r rs ih =>
    simp only [List.all_cons, Bool.and_eq_true] at h
    have h1 := lineL_len h.1
    have h2 := ih h.2
    simp only [textL, List.flatMap_cons, List.length_append, List.length_cons, lineR] at h2 ⊢
    simp
    simp at h2
    omega
end Go.Proofs.YtabinbeohecebaaDoor
