/- Wire: streams that are nil or zero; a fault that is nil. -/
import Derived.Test.YtmnmmabhmedioaaDoorWrN
namespace Go.Proofs.YtmnmmabhmedioaaDoor
open Go.RowKit
set_option linter.unusedVariables false
set_option linter.unusedSimpArgs false
set_option maxRecDepth 100000

def kStream : List UInt8 := [115, 116, 114, 101, 97, 109]
/-- A stream that no call made: nil, or with made false. -/
def Unmade (w : World) (p : Option Addr) : Prop := p = none ∨ ∃ z, p = some ⟨z, 0, none⟩ ∧ w.cell? ⟨z, 0, none⟩ = some (.bool false)
theorem Unmade.on {w w' : World} {p : Option Addr} (hb : Below w.heap.size w w') (h : Unmade w p) : Unmade w' p := by
  rcases h with rfl | ⟨z, rfl, h⟩
  · exact .inl rfl
  · exact .inr ⟨z, rfl, cell_on hb h⟩
/-- The answer: the stream was not made. -/
def ErrMade (w : World) (v : Value) (w' : World) : Prop := ∃ q, v = errOf q ∧ FaultAt w' q ⟨kStream, 0, 2⟩ ∧ w.heap.size ≤ q ∧ Below w.heap.size w w'

theorem unmade_any (p : Option Addr) (w : World) (h : Unmade w p) :
    Calls Tryd.prog 70 #[.pointer p] w fun e w' => ∃ v, e = .returned v ∧ ErrMade w v w' := by
  rcases h with rfl | ⟨z, rfl, h⟩
  all_goals
    go_enter Tryd.func70, Tryd.ntmps70
    go_wp2
    go_ret
    exact ⟨_, rfl, w.heap.size, rfl, heap_alloc_new w _, Nat.le_refl _, boxed _ _⟩
theorem feed_any (p : Option Addr) (x : Value) (w : World) (h : Unmade w p) :
    Calls Tryd.prog 25 #[.pointer p, x] w fun e w' => ∃ v, e = .returned (.tuple #[.slice none 0 0, v]) ∧ ErrMade w v w' := by
  replace h := Lib.hid h
  go_enter Tryd.func25, Tryd.ntmps25
  go_wp2_with fail
  refine (unmade_any p w h.out).mono ?_
  rintro e w1 ⟨v, rfl, q, rfl, h1⟩
  go_wp2
  go_ret2
  exact ⟨_, rfl, q, rfl, h1⟩
theorem end_any (p : Option Addr) (w : World) (h : Unmade w p) :
    Calls Tryd.prog 28 #[.pointer p] w fun e w' => ∃ v, e = .returned v ∧ ErrMade w v w' := by
  replace h := Lib.hid h
  go_enter Tryd.func28, Tryd.ntmps28
  go_wp2_with fail
  refine (unmade_any p w h.out).mono ?_
  rintro e w1 ⟨v, rfl, q, rfl, h1⟩
  go_wp2
  go_ret
  exact ⟨_, rfl, q, rfl, h1⟩
theorem left_any (p : Option Addr) (w : World) (h : Unmade w p) :
    Calls Tryd.prog 29 #[.pointer p] w fun e w' => e = .returned (.int .i64 0) ∧ Below w.heap.size w w' := by
  replace h := Lib.hid h
  go_enter Tryd.func29, Tryd.ntmps29
  go_wp2_with fail
  refine (unmade_any p w h.out).mono ?_
  rintro e w1 ⟨v, rfl, q, rfl, h1⟩
  go_wp2
  go_ret
  exact ⟨rfl, h1.2.2⟩
theorem ferror_nil (w : World) : Calls Tryd.prog 26 #[.pointer none] w fun e w' => e = .returned (.string ⟨#[]⟩) ∧ Below w.heap.size w w' := by
  go_enter Tryd.func26, Tryd.ntmps26
  go_wp2
  go_ret
  exact ⟨rfl, Below.refl _ _⟩
theorem funwrap_nil (w : World) : Calls Tryd.prog 27 #[.pointer none] w fun e w' => e = .returned .nilIface ∧ Below w.heap.size w w' := by
  go_enter Tryd.func27, Tryd.ntmps27
  go_wp2
  go_ret
  exact ⟨rfl, Below.refl _ _⟩
end Go.Proofs.YtmnmmabhmedioaaDoor
