/- Facts on the memory of a policy of one rule, and the small functions of package policy over it. -/
import Derived.Test.YtabinbeohecebaaDoorMem
namespace Go.Proofs.YtabinbeohecebaaDoor
open Go.RowKit
set_option linter.unusedVariables false
set_option linter.unusedSimpArgs false
set_option maxRecDepth 100000

/-- A policy with one rule that allows what begins with 'pfx' and has at most 9 bytes, 'rate' times in 'window'. -/
structure Pol (w : World) (B p R S C M cr : Nat) (pp : Option Addr) (pc : Nat) (pfx : List Int) (x : Value) (rate window now passed : Int) (rec : List Int) : Prop where
  bp : B ≤ p
  bR : B ≤ R
  bS : B ≤ S
  bC : B ≤ C
  bM : B ≤ M
  hP : w.heap[p]? = some (.cells #[.bool true, .slice (some ⟨R, 0, none⟩) 1 cr, .slice none 0 0, .int .i64 now, .slice (some ⟨S, 0, none⟩) 1 1, .slice (some ⟨C, 0, none⟩) 1 1, .map (some M)] 67 (0, 0))
  hR : ∃ rest, w.heap[R]? = some (.cells (#[.bool true, .slice pp pfx.length pc, .int .i64 9, .int .i64 0, .int .i64 rate, .int .i64 window] ++ rest) 35 (0, 0))
  hS : w.heap[S]? = some (.cells #[.int .i64 passed] 3 (0, 0))
  hC : w.heap[C]? = some (.cells #[x] 63 (0, 0))
  hM : w.heap[M]? = some (.map #[] 0)
  hpfx : Lib.BytesIn w pp pfx.length pfx
  hx : w.ownsRow B 3 1 x rec.length (rec.map (Value.int .i64))
  hxS : x.ownBlock ≠ some S

theorem unmade_no (w : World) (p : Nat) (h0 : w.cell? ⟨p, 0, none⟩ = some (.bool true)) :
    Calls Tryd.prog 48 #[.pointer (some ⟨p, 0, none⟩)] w fun e w' => e = .returned (.bool false) ∧ w = w' := by
  go_enter Tryd.func48, Tryd.ntmps48
  go_wp2
  go_ret
  exact ⟨rfl, rfl⟩

def inWin (now window : Int) (l : List Int) : List Int := l.filter fun t => decide (now - t < window)

theorem inWin_le (now window : Int) (l : List Int) : (inWin now window l).length ≤ l.length := List.length_filter_le _ _
theorem inWin_snoc (now window : Int) (l : List Int) (k : Nat) (hk : k < l.length) : inWin now window (l.take (k + 1)) = inWin now window (l.take k) ++ if now - l.getD k 0 < window then [l.getD k 0] else [] := by
  unfold inWin
  rw [List.take_add_one, List.getElem?_eq_getElem hk, List.filter_append]
  simp only [List.getD, List.getElem?_eq_getElem hk, Option.getD_some, Option.toList_some]
  by_cases h : now - l[k] < window <;> simp [h]
end Go.Proofs.YtabinbeohecebaaDoor
