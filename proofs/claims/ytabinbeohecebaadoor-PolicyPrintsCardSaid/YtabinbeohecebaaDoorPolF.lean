/- New of one rule. -/
import Derived.Test.YtabinbeohecebaaDoorPolE
namespace Go.Proofs.YtabinbeohecebaaDoor
open Go.RowKit
set_option linter.unusedVariables false
set_option linter.unusedSimpArgs false
set_option maxRecDepth 100000

theorem between_yes (n most : Int) (w : World) (h0 : 0 ≤ n) (h1 : n ≤ most) :
    Calls Tryd.prog 30 #[.int .i64 n, .int .i64 most] w fun e w' => e = .returned (.bool true) ∧ w = w' := by
  go_enter Tryd.func30, Tryd.ntmps30
  go_wp2
  go_ret
  exact ⟨rfl, rfl⟩

set_option maxHeartbeats 1000000 in
theorem mayRule_yes (pp : Option Addr) (n pc : Nat) (rate window : Int) (w : World) (hn : n ≤ 64) (r1 : 1 ≤ rate) (r2 : rate ≤ 4096) (w1 : 1 ≤ window) (w2 : window ≤ 2000000000) :
    Calls Tryd.prog 21 #[.agg #[.bool true, .slice pp n pc, .int .i64 9, .int .i64 0, .int .i64 rate, .int .i64 window]] w fun e w' =>
      e = .returned (.bool true) ∧ Below w.heap.size w w' := by
  have e1 : (rate == 0) = false := by simp; omega
  have e2 : (window == 0) = false := by simp; omega
  go_enter Tryd.func21, Tryd.ntmps21
  go_wp2_with (go_at_call 30; refine (between_yes _ _ _ (by omega) (by omega)).mono ?_; rintro e w' ⟨rfl, rfl⟩)
  go_ret
  exact ⟨rfl, (Below.refl _ _).alloc (Nat.le_refl _) _⟩

set_option maxHeartbeats 1000000 in
theorem mayRules_one (pp : Option Addr) (n pc rb cr : Nat) (rate window : Int) (w : World) (hn : n ≤ 64) (r1 : 1 ≤ rate) (r2 : rate ≤ 4096) (w1 : 1 ≤ window) (w2 : window ≤ 2000000000)
    (h0 : w.cell? ⟨rb, 0, none⟩ = some (.bool true)) (h1 : w.cell? ⟨rb, 1, none⟩ = some (.slice pp n pc)) (h2 : w.cell? ⟨rb, 2, none⟩ = some (.int .i64 9)) (h3 : w.cell? ⟨rb, 3, none⟩ = some (.int .i64 0))
    (h4 : w.cell? ⟨rb, 4, none⟩ = some (.int .i64 rate)) (h5 : w.cell? ⟨rb, 5, none⟩ = some (.int .i64 window)) :
    Calls Tryd.prog 11 #[.slice (some ⟨rb, 0, none⟩) 1 cr] w fun e w' => e = .returned (.int .i64 0) ∧ Below w.heap.size w w' := by
  go_enter Tryd.func11, Tryd.ntmps11
  go_wp2
  refine wp_loop_rounds 2 ?_
  rw [rounds_succ]
  go_wp2_with fail
  refine (mayRule_yes pp n pc rate window _ hn r1 r2 w1 w2).mono ?_
  rintro e w' ⟨rfl, hB⟩
  go_wp2
  rw [rounds_succ]
  go_wp2
  go_ret
  exact ⟨rfl, later ((Below.refl _ _).alloc (Nat.le_refl _) _) hB⟩
end Go.Proofs.YtabinbeohecebaaDoor
