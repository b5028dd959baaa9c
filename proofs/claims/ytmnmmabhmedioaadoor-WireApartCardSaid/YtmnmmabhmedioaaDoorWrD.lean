/- Wire: what was given up by panic is caught. -/
import Derived.Test.YtmnmmabhmedioaaDoorWrC
namespace Go.Proofs.YtmnmmabhmedioaaDoor
open Go.RowKit
set_option linter.unusedVariables false
set_option linter.unusedSimpArgs false
set_option maxRecDepth 100000

theorem ta_caught (v : Value) (w : World) : (Instr.typeAssert (.iface 79 v) 20 79 true).run Tryd.prog w = .ok (.tuple #[v, .bool true]) w := by kernel_rfl
theorem eq_caught (v : Value) (w : World) : (binOp BinOp.eql 20 (.iface 79 v) .nilIface).run Tryd.prog w = .ok (.bool false) w := by kernel_rfl
theorem caught_panicking (p : Addr) (b : Nat) (x : Value) (older : List PanicEntry) (w : World) (hc : w.cell? p = some x) (hz : w.frozen? p = false) :
    CallsD Tryd.prog 36 #[.pointer (some p)] (.panicking ({ v := errOf b, recovered := false } :: older)) w fun e u' w' =>
      e = .returned (.tuple #[]) ∧ u' = .panicking ({ v := errOf b, recovered := true } :: older) ∧ w' = w.setCell p (errOf b) := by
  have h1 := ta_caught
  have h2 := eq_caught
  refine callsD_of_wpS Tryd.func36 rfl fun c₀ cs hu => ?_
  apply wpS_seq
  apply wpS_region
  simp [wpOpsS, go_sem, recoverD, hu, Tryd.ntmps36, Exit.thenS]
  refine wpS_of_wp ?_
  change Code.wp _ _ _ { tmps := #[.pointer (some p), undef, undef, undef, undef, errOf b, undef, undef, undef, undef, undef, undef, undef, undef, undef], defers := [] } w
  go_wp2
  simp [bodyPostS, results, Tryd.results36]

theorem caught_idle (p : Addr) (w : World) :
    CallsD Tryd.prog 36 #[.pointer (some p)] .returning w fun e u' w' => e = .returned (.tuple #[]) ∧ u' = .returning ∧ w' = w := by
  refine callsD_of_wpS Tryd.func36 rfl fun c₀ cs hu => ?_
  apply wpS_seq
  apply wpS_region
  simp [wpOpsS, go_sem, recoverD, hu, Tryd.ntmps36, Exit.thenS]
  refine wpS_of_wp ?_
  change Code.wp _ _ _ { tmps := #[.pointer (some p), undef, undef, undef, undef, .nilIface, undef, undef, undef, undef, undef, undef, undef, undef, undef], defers := [] } w
  go_wp2
  cases c₀
  simp_all [bodyPostS, results, Tryd.results36]
end Go.Proofs.YtmnmmabhmedioaaDoor
