/- SHA-512: rotations. (Printed by gen_ror.py.) -/
import Derived.Test.YtmnmmabhmedioaaDoorWord
namespace Go.Proofs.YtmnmmabhmedioaaDoor
open Go.RowKit
set_option linter.unusedVariables false
set_option linter.unusedSimpArgs false

def rotr (n : Nat) (x : UInt64) : UInt64 := (x <<< UInt64.ofNat (64 - n)) ||| (x >>> UInt64.ofNat n)

theorem ror_1 (x : UInt64) (w : World) : Calls Tryd.prog 107 #[U x, .int .i64 1] w fun e w' => e = .returned (U (rotr 1 x)) ∧ w = w' := by
  have hb : bits BinOp.and IntKind.u64 (IntKind.u64.wrap (-1)) 63 = 63 := by kernel_rfl
  have e1 : IntKind.u64.wrap (nv x * 9223372036854775808) = nv (x <<< UInt64.ofNat 63) := u64_shl x 63 9223372036854775808 (by omega) (by rfl)
  have e2 : nv x / 2 = nv (x >>> UInt64.ofNat 1) := u64_shr x 1 2 (by omega) (by rfl)
  have e3 := u64_or
  go_enter Tryd.func107, Tryd.ntmps107
  go_wp2
  go_ret
  exact ⟨rfl, rfl⟩

theorem ror_8 (x : UInt64) (w : World) : Calls Tryd.prog 107 #[U x, .int .i64 8] w fun e w' => e = .returned (U (rotr 8 x)) ∧ w = w' := by
  have hb : bits BinOp.and IntKind.u64 (IntKind.u64.wrap (-8)) 63 = 56 := by kernel_rfl
  have e1 : IntKind.u64.wrap (nv x * 72057594037927936) = nv (x <<< UInt64.ofNat 56) := u64_shl x 56 72057594037927936 (by omega) (by rfl)
  have e2 : nv x / 256 = nv (x >>> UInt64.ofNat 8) := u64_shr x 8 256 (by omega) (by rfl)
  have e3 := u64_or
  go_enter Tryd.func107, Tryd.ntmps107
  go_wp2
  go_ret
  exact ⟨rfl, rfl⟩

theorem ror_14 (x : UInt64) (w : World) : Calls Tryd.prog 107 #[U x, .int .i64 14] w fun e w' => e = .returned (U (rotr 14 x)) ∧ w = w' := by
  have hb : bits BinOp.and IntKind.u64 (IntKind.u64.wrap (-14)) 63 = 50 := by kernel_rfl
  have e1 : IntKind.u64.wrap (nv x * 1125899906842624) = nv (x <<< UInt64.ofNat 50) := u64_shl x 50 1125899906842624 (by omega) (by rfl)
  have e2 : nv x / 16384 = nv (x >>> UInt64.ofNat 14) := u64_shr x 14 16384 (by omega) (by rfl)
  have e3 := u64_or
  go_enter Tryd.func107, Tryd.ntmps107
  go_wp2
  go_ret
  exact ⟨rfl, rfl⟩

theorem ror_18 (x : UInt64) (w : World) : Calls Tryd.prog 107 #[U x, .int .i64 18] w fun e w' => e = .returned (U (rotr 18 x)) ∧ w = w' := by
  have hb : bits BinOp.and IntKind.u64 (IntKind.u64.wrap (-18)) 63 = 46 := by kernel_rfl
  have e1 : IntKind.u64.wrap (nv x * 70368744177664) = nv (x <<< UInt64.ofNat 46) := u64_shl x 46 70368744177664 (by omega) (by rfl)
  have e2 : nv x / 262144 = nv (x >>> UInt64.ofNat 18) := u64_shr x 18 262144 (by omega) (by rfl)
  have e3 := u64_or
  go_enter Tryd.func107, Tryd.ntmps107
  go_wp2
  go_ret
  exact ⟨rfl, rfl⟩

theorem ror_19 (x : UInt64) (w : World) : Calls Tryd.prog 107 #[U x, .int .i64 19] w fun e w' => e = .returned (U (rotr 19 x)) ∧ w = w' := by
  have hb : bits BinOp.and IntKind.u64 (IntKind.u64.wrap (-19)) 63 = 45 := by kernel_rfl
  have e1 : IntKind.u64.wrap (nv x * 35184372088832) = nv (x <<< UInt64.ofNat 45) := u64_shl x 45 35184372088832 (by omega) (by rfl)
  have e2 : nv x / 524288 = nv (x >>> UInt64.ofNat 19) := u64_shr x 19 524288 (by omega) (by rfl)
  have e3 := u64_or
  go_enter Tryd.func107, Tryd.ntmps107
  go_wp2
  go_ret
  exact ⟨rfl, rfl⟩

theorem ror_28 (x : UInt64) (w : World) : Calls Tryd.prog 107 #[U x, .int .i64 28] w fun e w' => e = .returned (U (rotr 28 x)) ∧ w = w' := by
  have hb : bits BinOp.and IntKind.u64 (IntKind.u64.wrap (-28)) 63 = 36 := by kernel_rfl
  have e1 : IntKind.u64.wrap (nv x * 68719476736) = nv (x <<< UInt64.ofNat 36) := u64_shl x 36 68719476736 (by omega) (by rfl)
  have e2 : nv x / 268435456 = nv (x >>> UInt64.ofNat 28) := u64_shr x 28 268435456 (by omega) (by rfl)
  have e3 := u64_or
  go_enter Tryd.func107, Tryd.ntmps107
  go_wp2
  go_ret
  exact ⟨rfl, rfl⟩

theorem ror_34 (x : UInt64) (w : World) : Calls Tryd.prog 107 #[U x, .int .i64 34] w fun e w' => e = .returned (U (rotr 34 x)) ∧ w = w' := by
  have hb : bits BinOp.and IntKind.u64 (IntKind.u64.wrap (-34)) 63 = 30 := by kernel_rfl
  have e1 : IntKind.u64.wrap (nv x * 1073741824) = nv (x <<< UInt64.ofNat 30) := u64_shl x 30 1073741824 (by omega) (by rfl)
  have e2 : nv x / 17179869184 = nv (x >>> UInt64.ofNat 34) := u64_shr x 34 17179869184 (by omega) (by rfl)
  have e3 := u64_or
  go_enter Tryd.func107, Tryd.ntmps107
  go_wp2
  go_ret
  exact ⟨rfl, rfl⟩

theorem ror_39 (x : UInt64) (w : World) : Calls Tryd.prog 107 #[U x, .int .i64 39] w fun e w' => e = .returned (U (rotr 39 x)) ∧ w = w' := by
  have hb : bits BinOp.and IntKind.u64 (IntKind.u64.wrap (-39)) 63 = 25 := by kernel_rfl
  have e1 : IntKind.u64.wrap (nv x * 33554432) = nv (x <<< UInt64.ofNat 25) := u64_shl x 25 33554432 (by omega) (by rfl)
  have e2 : nv x / 549755813888 = nv (x >>> UInt64.ofNat 39) := u64_shr x 39 549755813888 (by omega) (by rfl)
  have e3 := u64_or
  go_enter Tryd.func107, Tryd.ntmps107
  go_wp2
  go_ret
  exact ⟨rfl, rfl⟩

theorem ror_41 (x : UInt64) (w : World) : Calls Tryd.prog 107 #[U x, .int .i64 41] w fun e w' => e = .returned (U (rotr 41 x)) ∧ w = w' := by
  have hb : bits BinOp.and IntKind.u64 (IntKind.u64.wrap (-41)) 63 = 23 := by kernel_rfl
  have e1 : IntKind.u64.wrap (nv x * 8388608) = nv (x <<< UInt64.ofNat 23) := u64_shl x 23 8388608 (by omega) (by rfl)
  have e2 : nv x / 2199023255552 = nv (x >>> UInt64.ofNat 41) := u64_shr x 41 2199023255552 (by omega) (by rfl)
  have e3 := u64_or
  go_enter Tryd.func107, Tryd.ntmps107
  go_wp2
  go_ret
  exact ⟨rfl, rfl⟩

theorem ror_61 (x : UInt64) (w : World) : Calls Tryd.prog 107 #[U x, .int .i64 61] w fun e w' => e = .returned (U (rotr 61 x)) ∧ w = w' := by
  have hb : bits BinOp.and IntKind.u64 (IntKind.u64.wrap (-61)) 63 = 3 := by kernel_rfl
  have e1 : IntKind.u64.wrap (nv x * 8) = nv (x <<< UInt64.ofNat 3) := u64_shl x 3 8 (by omega) (by rfl)
  have e2 : nv x / 2305843009213693952 = nv (x >>> UInt64.ofNat 61) := u64_shr x 61 2305843009213693952 (by omega) (by rfl)
  have e3 := u64_or
  go_enter Tryd.func107, Tryd.ntmps107
  go_wp2
  go_ret
  exact ⟨rfl, rfl⟩

end Go.Proofs.YtmnmmabhmedioaaDoor
