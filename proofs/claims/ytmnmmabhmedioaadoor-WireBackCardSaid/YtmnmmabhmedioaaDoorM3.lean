/- SHA-512: rotations. (Printed by gen_ror.py.) -/
import Derived.Test.YtmnmmabhmedioaaDoorM1
import Derived.Deep.MidRow
import Derived.Deep.WholeRow
import Derived.Deep.DeepCutAuto
namespace Go.Proofs.YtmnmmabhmedioaaDoor
open Go.RowKit
set_option linter.unusedVariables false
set_option linter.unusedSimpArgs false

def rotr (n : Nat) (x : UInt64) : UInt64 := (x <<< UInt64.ofNat (64 - n)) ||| (x >>> UInt64.ofNat n)

theorem ror_1 (x : UInt64) (w : World) : Calls Tryd.prog 107 #[U x, .int .i64 1] w fun e w' => e = .returned (U (rotr 1 x)) ∧ w = w' := by
  have hb : bits BinOp.and IntKind.u64 (IntKind.u64.wrap (-1)) 63 = 63 := by kernel_rfl
  have e1 : IntKind.u64.wrap (nv x * 9223372036854775808) = nv (x <<< UInt64.ofNat 63) := u64_shl x 63 9223372036854775808 (by omega) (by rfl)
  have e2 : nv x / 2 = nv (x >>> UInt64.ofNat 1) := u64_shr x 1 2 (by omega) (by rfl)
  have e3 := u64_or
  go_enter Tryd.func107, Tryd.ntmps107
  go_wp2
  go_ret
  exact ⟨rfl, rfl⟩

theorem ror_8 (x : UInt64) (w : World) : Calls Tryd.prog 107 #[U x, .int .i64 8] w fun e w' => e = .returned (U (rotr 8 x)) ∧ w = w' := by
  have hb : bits BinOp.and IntKind.u64 (IntKind.u64.wrap (-8)) 63 = 56 := by kernel_rfl
  have e1 : IntKind.u64.wrap (nv x * 72057594037927936) = nv (x <<< UInt64.ofNat 56) := u64_shl x 56 72057594037927936 (by omega) (by rfl)
  have e2 : nv x / 256 = nv (x >>> UInt64.ofNat 8) := u64_shr x 8 256 (by omega) (by rfl)
  have e3 := u64_or
  go_enter Tryd.func107, Tryd.ntmps107
  go_wp2
  go_ret
  exact ⟨rfl, rfl⟩

theorem ror_14 (x : UInt64) (w : World) : Calls Tryd.prog 107 #[U x, .int .i64 14] w fun e w' => e = .returned (U (rotr 14 x)) ∧ w = w' := by
  have hb : bits BinOp.and IntKind.u64 (IntKind.u64.wrap (-14)) 63 = 50 := by kernel_rfl
  have e1 : IntKind.u64.wrap (nv x * 1125899906842624) = nv (x <<< UInt64.ofNat 50) := u64_shl x 50 1125899906842624 (by omega) (by rfl)
  have e2 : nv x / 16384 = nv (x >>> UInt64.ofNat 14) := u64_shr x 14 16384 (by omega) (by rfl)
  have e3 := u64_or
  go_enter Tryd.func107, Tryd.ntmps107
  go_wp2
  go_ret
  exact ⟨rfl, rfl⟩

theorem ror_18 (x : UInt64) (w : World) : Calls Tryd.prog 107 #[U x, .int .i64 18] w fun e w' => e = .returned (U (rotr 18 x)) ∧ w = w' := by
  have hb : bits BinOp.and IntKind.u64 (IntKind.u64.wrap (-18)) 63 = 46 := by kernel_rfl
  have e1 : IntKind.u64.wrap (nv x * 70368744177664) = nv (x <<< UInt64.ofNat 46) := u64_shl x 46 70368744177664 (by omega) (by rfl)
  have e2 : nv x / 262144 = nv (x >>> UInt64.ofNat 18) := u64_shr x 18 262144 (by omega) (by rfl)
  have e3 := u64_or
  go_enter Tryd.func107, Tryd.ntmps107
  go_wp2
  go_ret
  exact ⟨rfl, rfl⟩

theorem ror_19 (x : UInt64) (w : World) : Calls Tryd.prog 107 #[U x, .int .i64 19] w fun e w' => e = .returned (U (rotr 19 x)) ∧ w = w' := by
  have hb : bits BinOp.and IntKind.u64 (IntKind.u64.wrap (-19)) 63 = 45 := by kernel_rfl
  have e1 : IntKind.u64.wrap (nv x * 35184372088832) = nv (x <<< UInt64.ofNat 45) := u64_shl x 45 35184372088832 (by omega) (by rfl)
  have e2 : nv x / 524288 = nv (x >>> UInt64.ofNat 19) := u64_shr x 19 524288 (by omega) (by rfl)
  have e3 := u64_or
  go_enter Tryd.func107, Tryd.ntmps107
  go_wp2
  go_ret
  exact ⟨rfl, rfl⟩

theorem ror_28 (x : UInt64) (w : World) : Calls Tryd.prog 107 #[U x, .int .i64 28] w fun e w' => e = .returned (U (rotr 28 x)) ∧ w = w' := by
  have hb : bits BinOp.and IntKind.u64 (IntKind.u64.wrap (-28)) 63 = 36 := by kernel_rfl
  have e1 : IntKind.u64.wrap (nv x * 68719476736) = nv (x <<< UInt64.ofNat 36) := u64_shl x 36 68719476736 (by omega) (by rfl)
  have e2 : nv x / 268435456 = nv (x >>> UInt64.ofNat 28) := u64_shr x 28 268435456 (by omega) (by rfl)
  have e3 := u64_or
  go_enter Tryd.func107, Tryd.ntmps107
  go_wp2
  go_ret
  exact ⟨rfl, rfl⟩

theorem ror_34 (x : UInt64) (w : World) : Calls Tryd.prog 107 #[U x, .int .i64 34] w fun e w' => e = .returned (U (rotr 34 x)) ∧ w = w' := by
  have hb : bits BinOp.and IntKind.u64 (IntKind.u64.wrap (-34)) 63 = 30 := by kernel_rfl
  have e1 : IntKind.u64.wrap (nv x * 1073741824) = nv (x <<< UInt64.ofNat 30) := u64_shl x 30 1073741824 (by omega) (by rfl)
  have e2 : nv x / 17179869184 = nv (x >>> UInt64.ofNat 34) := u64_shr x 34 17179869184 (by omega) (by rfl)
  have e3 := u64_or
  go_enter Tryd.func107, Tryd.ntmps107
  go_wp2
  go_ret
  exact ⟨rfl, rfl⟩

theorem ror_39 (x : UInt64) (w : World) : Calls Tryd.prog 107 #[U x, .int .i64 39] w fun e w' => e = .returned (U (rotr 39 x)) ∧ w = w' := by
  have hb : bits BinOp.and IntKind.u64 (IntKind.u64.wrap (-39)) 63 = 25 := by kernel_rfl
  have e1 : IntKind.u64.wrap (nv x * 33554432) = nv (x <<< UInt64.ofNat 25) := u64_shl x 25 33554432 (by omega) (by rfl)
  have e2 : nv x / 549755813888 = nv (x >>> UInt64.ofNat 39) := u64_shr x 39 549755813888 (by omega) (by rfl)
  have e3 := u64_or
  go_enter Tryd.func107, Tryd.ntmps107
  go_wp2
  go_ret
  exact ⟨rfl, rfl⟩

theorem ror_41 (x : UInt64) (w : World) : Calls Tryd.prog 107 #[U x, .int .i64 41] w fun e w' => e = .returned (U (rotr 41 x)) ∧ w = w' := by
  have hb : bits BinOp.and IntKind.u64 (IntKind.u64.wrap (-41)) 63 = 23 := by kernel_rfl
  have e1 : IntKind.u64.wrap (nv x * 8388608) = nv (x <<< UInt64.ofNat 23) := u64_shl x 23 8388608 (by omega) (by rfl)
  have e2 : nv x / 2199023255552 = nv (x >>> UInt64.ofNat 41) := u64_shr x 41 2199023255552 (by omega) (by rfl)
  have e3 := u64_or
  go_enter Tryd.func107, Tryd.ntmps107
  go_wp2
  go_ret
  exact ⟨rfl, rfl⟩

theorem ror_61 (x : UInt64) (w : World) : Calls Tryd.prog 107 #[U x, .int .i64 61] w fun e w' => e = .returned (U (rotr 61 x)) ∧ w = w' := by
  have hb : bits BinOp.and IntKind.u64 (IntKind.u64.wrap (-61)) 63 = 3 := by kernel_rfl
  have e1 : IntKind.u64.wrap (nv x * 8) = nv (x <<< UInt64.ofNat 3) := u64_shl x 3 8 (by omega) (by rfl)
  have e2 : nv x / 2305843009213693952 = nv (x >>> UInt64.ofNat 61) := u64_shr x 61 2305843009213693952 (by omega) (by rfl)
  have e3 := u64_or
  go_enter Tryd.func107, Tryd.ntmps107
  go_wp2
  go_ret
  exact ⟨rfl, rfl⟩

end Go.Proofs.YtmnmmabhmedioaaDoor
/- SHA-512: the constants. -/
namespace Go.Proofs.YtmnmmabhmedioaaDoor
open Go.RowKit
set_option linter.unusedVariables false
set_option linter.unusedSimpArgs false

theorem wpList_value {P : Program} {ops : Array Oper} {rest : List Oper} {o : Oper} {a : Act} {w w' : World} {Q : Exit → Act → World → Prop} (hg : o.guard = none) (v : Value)
    (hrun : (execOp a.eval o).run P w = .ok (.value v) w') (h : wpList P ops Q rest (a.put o.dst v) w') : wpList P ops Q (o :: rest) a w :=
  wpList_plain hg fun K hK => by
    unfold Oper.wp
    rw [hrun]
    exact hK _ _ h
theorem wpList_skips {P : Program} {ops : Array Oper} {rest : List Oper} {o : Oper} {a : Act} {w w' : World} {Q : Exit → Act → World → Prop} (hg : o.guard = none)
    (hrun : (execOp a.eval o).run P w = .ok .skip w') (h : wpList P ops Q rest (a.put o.dst undef) w') : wpList P ops Q (o :: rest) a w :=
  wpList_plain hg fun K hK => by
    unfold Oper.wp
    rw [hrun]
    exact hK _ _ h

/-- The constants; the state at the beginning. -/
def kW : List UInt64 := [0x428a2f98d728ae22, 0x7137449123ef65cd, 0xb5c0fbcfec4d3b2f, 0xe9b5dba58189dbbc, 0x3956c25bf348b538, 0x59f111f1b605d019, 0x923f82a4af194f9b, 0xab1c5ed5da6d8118, 0xd807aa98a3030242, 0x12835b0145706fbe, 0x243185be4ee4b28c, 0x550c7dc3d5ffb4e2, 0x72be5d74f27b896f, 0x80deb1fe3b1696b1, 0x9bdc06a725c71235, 0xc19bf174cf692694, 0xe49b69c19ef14ad2, 0xefbe4786384f25e3, 0x0fc19dc68b8cd5b5, 0x240ca1cc77ac9c65, 0x2de92c6f592b0275, 0x4a7484aa6ea6e483, 0x5cb0a9dcbd41fbd4, 0x76f988da831153b5, 0x983e5152ee66dfab, 0xa831c66d2db43210, 0xb00327c898fb213f, 0xbf597fc7beef0ee4, 0xc6e00bf33da88fc2, 0xd5a79147930aa725, 0x06ca6351e003826f, 0x142929670a0e6e70, 0x27b70a8546d22ffc, 0x2e1b21385c26c926, 0x4d2c6dfc5ac42aed, 0x53380d139d95b3df, 0x650a73548baf63de, 0x766a0abb3c77b2a8, 0x81c2c92e47edaee6, 0x92722c851482353b, 0xa2bfe8a14cf10364, 0xa81a664bbc423001, 0xc24b8b70d0f89791, 0xc76c51a30654be30, 0xd192e819d6ef5218, 0xd69906245565a910, 0xf40e35855771202a, 0x106aa07032bbd1b8, 0x19a4c116b8d2d0c8, 0x1e376c085141ab53, 0x2748774cdf8eeb99, 0x34b0bcb5e19b48a8, 0x391c0cb3c5c95a63, 0x4ed8aa4ae3418acb, 0x5b9cca4f7763e373, 0x682e6ff3d6b2b8a3, 0x748f82ee5defb2fc, 0x78a5636f43172f60, 0x84c87814a1f0ab72, 0x8cc702081a6439ec, 0x90befffa23631e28, 0xa4506cebde82bde9, 0xbef9a3f7b2c67915, 0xc67178f2e372532b, 0xca273eceea26619c, 0xd186b8c721c0c207, 0xeada7dd6cde0eb1e, 0xf57d4f7fee6ed178, 0x06f067aa72176fba, 0x0a637dc5a2c898a6, 0x113f9804bef90dae, 0x1b710b35131c471b, 0x28db77f523047d84, 0x32caab7b40c72493, 0x3c9ebe0a15c9bebc, 0x431d67c49c100d4c, 0x4cc5d4becb3e42b6, 0x597f299cfc657e2a, 0x5fcb6fab3ad6faec, 0x6c44198c4a475817]
def hW : List UInt64 := [0x6a09e667f3bcc908, 0xbb67ae8584caa73b, 0x3c6ef372fe94f82b, 0xa54ff53a5f1d36f1, 0x510e527fade682d1, 0x9b05688c2b3e6c1f, 0x1f83d9abfb41bd6b, 0x5be0cd19137e2179]
def words (l : List UInt64) : Array Value := (l.map U).toArray

set_option maxRecDepth 100000 in
set_option maxHeartbeats 4000000 in
theorem consts_any (w : World) : Calls Tryd.prog 98 #[] w fun e w' => e = .returned (.agg (words kW)) ∧ Below w.heap.size w w' := by
  go_enter Tryd.func98, Tryd.ntmps98
  go_upto_region 1 with fail
  go_step
  refine wpList_value (w' := w.alloc (Obj.cells Tryd.zeroCells190 190)) rfl (.agg (words kW)) (by kernel_rfl) ?_
  refine wpList_skips (w' := w.alloc (Obj.cells (words kW) 190)) rfl ?_ ?_
  · have h := run_storeAt_new (P := Tryd.prog) w 190 Tryd.zeroCells190 (words kW) (by kernel_rfl) (by kernel_rfl) (by kernel_rfl)
    show (Instr.storeAt 190 (.pointer (some ⟨w.heap.size, 0, none⟩)) (.agg (words kW)) >>= fun _ => pure Next.skip : Sem Next).run Tryd.prog _ = _
    simp only [Sem.run_bind, h, Result.andThen, Sem.run_pure]
  · refine wpList_nil ?_
    go_wp2
    exact bodyPost_ret (results_cell_row rfl _ _ w.heap.size 190 (words kW) (0, 0) _ rfl (heap_alloc_new w _) Tryd.underlying190 rfl (by kernel_rfl)) rfl ⟨rfl, (Below.refl _ _).alloc (Nat.le_refl _) _⟩
end Go.Proofs.YtmnmmabhmedioaaDoor
