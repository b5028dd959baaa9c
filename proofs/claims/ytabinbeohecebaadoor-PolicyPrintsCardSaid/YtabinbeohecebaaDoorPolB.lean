/- inWindow: how many of the clocks lie in the window. -/
import Derived.Test.YtabinbeohecebaaDoorPolA
namespace Go.Proofs.YtabinbeohecebaaDoor
open Go.RowKit
set_option linter.unusedVariables false
set_option linter.unusedSimpArgs false
set_option maxRecDepth 100000

theorem ret_i64 {a b : Int} (h : a = b) : Ending.returned (.int .i64 a) = .returned (.int .i64 b) := by rw [h]

set_option maxHeartbeats 1000000 in
theorem inWindow_any (w : World) (p R C g cr xc : Nat) (xa : Option Addr) (now window : Int) (rec : List Int)
    (h1 : w.cell? ⟨p, 1, none⟩ = some (.slice (some ⟨R, 0, none⟩) 1 cr)) (h3 : w.cell? ⟨p, 3, none⟩ = some (.int .i64 now)) (h5 : w.cell? ⟨p, 5, none⟩ = some (.slice (some ⟨C, 0, none⟩) 1 1))
    (hw : w.cell? ⟨R, 5, none⟩ = some (.int .i64 window)) (hc : w.cell? ⟨C, 0, none⟩ = some (.slice xa rec.length xc)) (hl : rec.length ≤ 2 ^ 40)
    (hx : 0 < rec.length → xa = some ⟨g, 0, none⟩ ∧ ∀ j, j < rec.length → w.cell? ⟨g, j, none⟩ = some (.int .i64 (rec.getD j 0)))
    (h0n : 0 ≤ now) (hn : now ≤ 2 ^ 61) (hb : ∀ j, j < rec.length → 0 ≤ rec.getD j 0 ∧ rec.getD j 0 ≤ now) :
    Calls Tryd.prog 36 #[.pointer (some ⟨p, 0, none⟩), .int .i64 0] w fun e w' => e = .returned (.int .i64 (inWin now window rec).length) ∧ ∃ n, w' = w.drewN n := by
  have hX := Lib.hid hx
  have hB := Lib.hid hb
  clear hx hb
  go_enter Tryd.func36, Tryd.ntmps36
  go_wp2
  go_loopw [5, 7, 16] (fun n t i wr => ∃ k : Nat, k ≤ rec.length ∧ i = .int .i64 k ∧ n = .int .i64 (inWin now window (rec.take k)).length ∧ ∃ m, wr = w.drewN m) (fun _ _ i _ => rec.length - (intOf i).toNat)
  case atStart => exact ⟨0, Nat.zero_le _, rfl, rfl, 0, rfl⟩
  case round =>
    obtain ⟨k, hk, rfl, rfl, m, rfl⟩ := hrel
    have hle : (inWin now window (rec.take k)).length ≤ k := Nat.le_trans (inWin_le _ _ _) (List.length_take_le _ _)
    by_cases hlt : k < rec.length
    · obtain ⟨rfl, hcell⟩ := hX.out (by omega)
      have hck := hcell k hlt
      have hbk := hB.out k hlt
      have hs := Lib.hid (inWin_snoc now window rec k hlt)
      clear hcell
      obtain ⟨t, ht⟩ : ∃ t, rec.getD k 0 = t := ⟨_, rfl⟩
      rw [ht] at hck hbk hs
      clear ht
      have hwr : wrap64 (now - t) = now - t := IntWalk.wrap64_in _ ⟨by omega, by omega⟩
      by_cases h : now - t < window
      all_goals
        go_wp2
        go_quiet (fail)
        clear hwr
        go_wp2
        go_roundw
        case rel => exact ⟨k + 1, by omega, by go_num, by rw [hs.out]; first | (rw [if_pos (by omega)]; simp) | (rw [if_neg (by omega)]; simp), _, rfl⟩
        case measure => simp [intOf]; omega
    · go_wp2
      go_ret
      exact ⟨ret_i64 (by rw [List.take_of_length_le (by omega)]), m, rfl⟩
end Go.Proofs.YtabinbeohecebaaDoor
