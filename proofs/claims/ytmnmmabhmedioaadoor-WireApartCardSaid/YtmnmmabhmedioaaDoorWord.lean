/- Words of 64 bits as UInt64: what the walk writes for their operations. -/
import Derived.Test.YtmnmmabhmedioaaDoorMem
import Derived.Laws.BitsAllLaws
import Derived.Laws.DeepNot64
namespace Go.Proofs.YtmnmmabhmedioaaDoor
open Go.RowKit
set_option linter.unusedVariables false
set_option linter.unusedSimpArgs false

/-- A word's number; a byte's. (Plain definitions: the walk's simp does not open them.) -/
def nv (x : UInt64) : Int := (x.toNat : Int)
def nb (x : UInt8) : Int := (x.toNat : Int)
/-- A word, a byte as a value. -/
abbrev U (x : UInt64) : Value := .int .u64 (nv x)
abbrev B8 (x : UInt8) : Value := .int .u8 (nb x)

theorem nv_bd (x : UInt64) : 0 ≤ nv x ∧ nv x < 18446744073709551616 := by have := x.toNat_lt; unfold nv; omega
theorem nb_bd (x : UInt8) : 0 ≤ nb x ∧ nb x < 256 := by have := x.toNat_lt; unfold nb; omega
theorem nv_inj {x y : UInt64} (h : nv x = nv y) : x = y := by unfold nv at h; exact UInt64.toNat_inj.1 (by omega)
theorem nb_inj {x y : UInt8} (h : nb x = nb y) : x = y := by unfold nb at h; exact UInt8.toNat_inj.1 (by omega)
theorem u64_lt (x : UInt64) : x.toNat < 18446744073709551616 := x.toNat_lt
theorem u64_add (x y : UInt64) : IntKind.u64.wrap (nv x + nv y) = nv (x + y) := by
  unfold nv; rw [IntKind.wrap_u64, UInt64.toNat_add]; omega
theorem u64_sub (x y : UInt64) : IntKind.u64.wrap (nv x - nv y) = nv (x - y) := by
  have := u64_lt x; have := u64_lt y
  unfold nv; rw [IntKind.wrap_u64, UInt64.toNat_sub]; omega
theorem u64_mul (x y : UInt64) : IntKind.u64.wrap (nv x * nv y) = nv (x * y) := by
  unfold nv; rw [IntKind.wrap_u64, UInt64.toNat_mul, ← Int.natCast_mul]; omega
theorem u64_xor (x y : UInt64) : bits .xor .u64 (nv x) (nv y) = nv (x ^^^ y) := by
  unfold nv; rw [bits_xor_u64_nat _ _ (u64_lt x) (u64_lt y), UInt64.toNat_xor]
theorem u64_and (x y : UInt64) : bits .and .u64 (nv x) (nv y) = nv (x &&& y) := by
  unfold nv; rw [bits_and_u64_nat _ _ (u64_lt x) (u64_lt y), UInt64.toNat_and]
theorem u64_or (x y : UInt64) : bits .or .u64 (nv x) (nv y) = nv (x ||| y) := by
  unfold nv; rw [bits_or_u64_nat _ _ (u64_lt x) (u64_lt y), UInt64.toNat_or]
theorem u64_not (x : UInt64) : bits .xor .u64 IntKind.u64.max (nv x) = nv (~~~ x) := by
  have e : IntKind.u64.max = nv (~~~ (0 : UInt64)) := by rfl
  rw [e, u64_xor]
  rw [show ~~~ (0 : UInt64) ^^^ x = ~~~ x from UInt64.toBitVec_inj.1 (by simp)]
theorem u64_shl (x : UInt64) (n m : Nat) (hn : n < 64) (hm : m = 2 ^ n) : IntKind.u64.wrap (nv x * (m : Int)) = nv (x <<< (UInt64.ofNat n)) := by
  subst hm
  unfold nv
  rw [IntKind.wrap_u64, UInt64.toNat_shiftLeft, UInt64.toNat_ofNat', ← Int.natCast_mul]
  rw [show n % 2 ^ 64 % 64 = n from by omega, Nat.shiftLeft_eq]
  omega
theorem u64_shr (x : UInt64) (n m : Nat) (hn : n < 64) (hm : m = 2 ^ n) : nv x / (m : Int) = nv (x >>> (UInt64.ofNat n)) := by
  subst hm
  unfold nv
  rw [UInt64.toNat_shiftRight, UInt64.toNat_ofNat', show n % 2 ^ 64 % 64 = n from by omega, Nat.shiftRight_eq_div_pow]
  omega
theorem u64_of8 (b : UInt8) : IntKind.u64.wrap (nb b) = nv b.toUInt64 := by
  have := b.toNat_lt
  unfold nv nb; rw [IntKind.wrap_u64, UInt8.toNat_toUInt64]; omega
theorem u8_of64 (x : UInt64) : IntKind.u8.wrap (nv x) = nb x.toUInt8 := by
  unfold nv nb; rw [IntKind.wrap_u8, UInt64.toNat_toUInt8]; omega
end Go.Proofs.YtmnmmabhmedioaaDoor
