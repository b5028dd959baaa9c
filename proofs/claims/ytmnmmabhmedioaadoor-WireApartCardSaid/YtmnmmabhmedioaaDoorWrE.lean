/- Wire: a frame's kind and length. -/
import Derived.Test.YtmnmmabhmedioaaDoorWrD
namespace Go.Proofs.YtmnmmabhmedioaaDoor
open Go.RowKit
set_option linter.unusedVariables false
set_option linter.unusedSimpArgs false
set_option maxRecDepth 100000

theorem need_same (s at_ why : Value) (w : World) : Calls Tryd.prog 38 #[.bool true, s, at_, why] w fun e w' => e = .returned (.tuple #[]) ∧ w' = w :=
  (need_true s at_ why w).mono fun _ _ h => ⟨h.1, h.2.symm⟩

theorem need_dec {p : Prop} [Decidable p] (hp : p) (s at_ why : Value) (w : World) : Calls Tryd.prog 38 #[.bool (decide p), s, at_, why] w fun e w' => e = .returned (.tuple #[]) ∧ w' = w := by
  rw [decide_eq_true hp]
  exact need_same s at_ why w

/-- A frame's head. -/
def headL (kd : UInt8) (ns rest : List UInt8) : List UInt8 := 82 :: 73 :: 77 :: 69 :: 1 :: kd :: (ns ++ rest)

set_option maxHeartbeats 8000000 in
theorem peek_ok (b o c : Nat) (kd : UInt8) (ns rest : List UInt8) (w : World) (hns : ns.length = 4) (hk1 : 1 ≤ nb kd) (hk6 : nb kd ≤ 6) (hn : numL ns ≤ 1065189) (hr : rest.length ≤ 1099511627776) (hc : 10 + rest.length ≤ c)
    (hb : Bs w (some ⟨b, o, none⟩) (headL kd ns rest)) :
    Calls Tryd.prog 37 #[.slice (some ⟨b, o, none⟩) (10 + rest.length) c] w fun e w' => e = .returned (.tuple #[.int .i64 (nb kd), .int .i64 (10 + (numL ns : Int) + 4)]) ∧ ∃ m, w' = w.drewN m := by
  have hlen : (headL kd ns rest).length = 10 + rest.length := by simp [headL, hns]; omega
  have x : ∀ i, i < 10 + rest.length → w.cell? ⟨b, o + i, none⟩ = some (B8 ((headL kd ns rest).getD i 0)) := fun i hi => hb.at i (by rw [hlen]; omega)
  have x0 : w.cell? ⟨b, o, none⟩ = some (.int .u8 82) := x 0 (by omega)
  have x1 : w.cell? ⟨b, o + 1, none⟩ = some (.int .u8 73) := x 1 (by omega)
  have x2 : w.cell? ⟨b, o + 2, none⟩ = some (.int .u8 77) := x 2 (by omega)
  have x3 : w.cell? ⟨b, o + 3, none⟩ = some (.int .u8 69) := x 3 (by omega)
  have x4 : w.cell? ⟨b, o + 4, none⟩ = some (.int .u8 1) := x 4 (by omega)
  have x5 : w.cell? ⟨b, o + 5, none⟩ = some (.int .u8 (nb kd)) := x 5 (by omega)
  have hs : Bs w (some ⟨b, o + 6, none⟩) ns := by
    have h := (hb.drop 6).take 4
    have e : ((headL kd ns rest).drop 6).take 4 = ns := by
      show List.take 4 (ns ++ rest) = ns
      rw [List.take_append_of_le_length (by omega), List.take_of_length_le (by omega)]
    rw [e] at h
    exact h
  replace hs := Lib.hid hs
  clear x hb hlen
  have c1 : (10 : Int) ≤ (c : Int) := by omega
  have c2 : (0 : Int) ≤ (rest.length : Int) := by omega
  go_enter Tryd.func37, Tryd.ntmps37
  go_wp2_with fail
  go_loopw [4, 6] (fun _ i wr => ∃ k : Nat, k ≤ 4 ∧ i = .int .i64 k ∧ ∃ m, wr = w.drewN m) (fun _ i _ => 4 - (intOf i).toNat)
  case atStart => exact ⟨0, by omega, rfl, 0, rfl⟩
  case round =>
    obtain ⟨k, hk, rfl, m, hwr⟩ := hrel
    have y0 : wr.cell? ⟨b, o, none⟩ = some (.int .u8 82) := by rw [hwr]; exact x0
    have y1 : wr.cell? ⟨b, o + 1, none⟩ = some (.int .u8 73) := by rw [hwr]; exact x1
    have y2 : wr.cell? ⟨b, o + 2, none⟩ = some (.int .u8 77) := by rw [hwr]; exact x2
    have y3 : wr.cell? ⟨b, o + 3, none⟩ = some (.int .u8 69) := by rw [hwr]; exact x3
    have y4 : wr.cell? ⟨b, o + 4, none⟩ = some (.int .u8 1) := by rw [hwr]; exact x4
    have y5 : wr.cell? ⟨b, o + 5, none⟩ = some (.int .u8 (nb kd)) := by rw [hwr]; exact x5
    have ys : Bs wr (some ⟨b, o + 6, none⟩) ns := by rw [hwr]; exact hs.out
    replace hwr := Lib.hid hwr
    replace ys := Lib.hid ys
    clear x0 x1 x2 x3 x4 x5
    rcases Nat.lt_or_ge k 4 with hlt | hge
    · have : k = 0 ∨ k = 1 ∨ k = 2 ∨ k = 3 := by omega
      rcases this with rfl | rfl | rfl | rfl
      all_goals
        first
          | rw [show ((0 : Nat) : Int) = 0 from rfl]
          | rw [show ((1 : Nat) : Int) = 1 from rfl]
          | rw [show ((2 : Nat) : Int) = 2 from rfl]
          | rw [show ((3 : Nat) : Int) = 3 from rfl]
        go_wp2_with fail
        refine (need_dec (by omega) _ _ _ _).mono ?_
        rintro e w' ⟨rfl, rfl⟩
        go_wp2_with fail
        go_quiet ((go_at_call 38; exact Calls.quiet_of_same (need_same _ _ _ _)))
        go_wp2_with fail
        first
          | exact ⟨⟨1, by omega, rfl, m + nq, by rw [hwr.out, World.drewN_drewN]⟩, by simp [intOf]⟩
          | exact ⟨⟨2, by omega, rfl, m + nq, by rw [hwr.out, World.drewN_drewN]⟩, by simp [intOf]⟩
          | exact ⟨⟨3, by omega, rfl, m + nq, by rw [hwr.out, World.drewN_drewN]⟩, by simp [intOf]⟩
          | exact ⟨⟨4, by omega, rfl, m + nq, by rw [hwr.out, World.drewN_drewN]⟩, by simp [intOf]⟩
    · have : k = 4 := by omega
      subst this
      rw [show ((4 : Nat) : Int) = 4 from rfl]
      clear hk hge y0 y1 y2 y3
      go_wp2_with fail
      refine (need_dec (by omega) _ _ _ _).mono ?_
      rintro e w' ⟨rfl, rfl⟩
      go_wp2_with fail
      refine (need_same _ _ _ _).mono ?_
      rintro e w' ⟨rfl, rfl⟩
      go_wp2_with fail
      refine (need_dec (by omega) _ _ _ _).mono ?_
      rintro e w' ⟨rfl, rfl⟩
      go_wp2_with fail
      refine (need_same _ _ _ _).mono ?_
      rintro e w' ⟨rfl, rfl⟩
      go_wp2_with fail
      refine (need_dec (by omega) _ _ _ _).mono ?_
      rintro e w' ⟨rfl, rfl⟩
      go_wp2_with fail
      have hnb := (numberOf_any (some ⟨b, o + 6, none⟩) (c - 6) ns w' ys.out (by omega))
      rw [hns] at hnb
      refine hnb.mono ?_
      rintro e w' ⟨rfl, rfl⟩
      clear hnb
      go_wp2_with fail
      refine (need_dec (by omega) _ _ _ _).mono ?_
      rintro e w' ⟨rfl, rfl⟩
      have hkd : IntKind.i64.wrap (nb kd) = nb kd := by rw [IntKind.wrap_i64]; omega
      have hadd : wrap64 (10 + (numL ns : Int)) = 10 + (numL ns : Int) := IntWalk.wrap64_in _ ⟨by omega, by omega⟩
      go_wp2_with fail
      go_ret2
      exact ⟨rfl, m, hwr.out⟩
end Go.Proofs.YtmnmmabhmedioaaDoor
