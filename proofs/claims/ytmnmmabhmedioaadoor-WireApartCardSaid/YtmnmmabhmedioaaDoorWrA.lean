/- Wire: a fault in memory; fail, need; the texts of errors; errors.Is; the law's look at a fault. -/
import Derived.Test.YtmnmmabhmedioaaDoorBytes
import Derived.Test.YtmnmmabhmedioaaDoorShelf
import Derived.Lib.AppendIntMem
import Derived.Laws.IdiomStrings
import Derived.Lib.ItoaNum
import Derived.Lib.ItoaMem
import Derived.LaidEql
import Derived.Stop.Asserts
import Derived.RowKitTokens
import Derived.Deep.RegionWith
import Derived.Recover
import Derived.StillTailTactics
import Derived.Deep.RegionHeld3
import Derived.Deep.DeepCutAuto
namespace Go.Proofs.YtmnmmabhmedioaaDoor
open Go.RowKit
set_option linter.unusedVariables false
set_option linter.unusedSimpArgs false
set_option maxRecDepth 100000

/-- A fault. -/
structure FD where
  field : List UInt8
  at_ : Int
  why : Int
def FaultAt (w : World) (b : Nat) (f : FD) : Prop := w.heap[b]? = some (.cells #[.string ⟨f.field.toArray⟩, .int .i64 f.at_, .int .i64 f.why] 118 (0, 0))
theorem FaultAt.on {w w' : World} {b : Nat} {f : FD} (hb : Below w.heap.size w w') (h : FaultAt w b f) : FaultAt w' b f := heap_on hb h
/-- The error that bears it; a panic with it. -/
abbrev errOf (b : Nat) : Value := .iface 79 (.pointer (some ⟨b, 0, none⟩))
abbrev Threw (b : Nat) : Ending := .panicked [{ v := errOf b, recovered := false }]

theorem fail_any (s : List UInt8) (at_ why : Int) (w : World) :
    Calls Tryd.prog 78 #[.string ⟨s.toArray⟩, .int .i64 at_, .int .i64 why] w fun e w' => e = Threw w.heap.size ∧ FaultAt w' w.heap.size ⟨s, at_, why⟩ ∧ Below w.heap.size w w' := by
  go_enter Tryd.func78, Tryd.ntmps78
  go_wp2
  exact ⟨rfl, rfl, heap_alloc_new w _, boxed _ _⟩
theorem need_true (s : Value) (at_ why : Value) (w : World) :
    Calls Tryd.prog 38 #[.bool true, s, at_, why] w fun e w' => e = .returned (.tuple #[]) ∧ w = w' := by
  go_enter Tryd.func38, Tryd.ntmps38
  go_wp2
  go_end0
  exact ⟨rfl, rfl⟩
theorem need_false (s : List UInt8) (at_ why : Int) (w : World) :
    Calls Tryd.prog 38 #[.bool false, .string ⟨s.toArray⟩, .int .i64 at_, .int .i64 why] w fun e w' => ∃ b, e = Threw b ∧ w.heap.size ≤ b ∧ FaultAt w' b ⟨s, at_, why⟩ ∧ Below w.heap.size w w' := by
  go_enter Tryd.func38, Tryd.ntmps38
  go_wp2_with fail
  refine (fail_any s at_ why w).mono ?_
  rintro e w1 ⟨rfl, h1, h2⟩
  go_wp2
  exact ⟨rfl, w.heap.size, rfl, Nat.le_refl _, h1, h2⟩
/-! ### texts -/
abbrev Tab (B : Nat) (w : World) : Prop := Lib.TabBelow Tryd.prog B w "internal/strconv.uint64pow10" .u64 Lib.pow10Tab
theorem Tab.on {w w' : World} (h : Tab w.heap.size w) (hb : Below w.heap.size w w') : Tab w'.heap.size w' := fun w2 h2 => h w2 (later hb h2)
theorem Tab.at {w w' : World} (h : Tab w.heap.size w) (hb : Below w.heap.size w w') : Lib.TabIs Tryd.prog w' "internal/strconv.uint64pow10" .u64 Lib.pow10Tab := h w' hb
theorem itoa_any (n : Int) (h0 : 0 ≤ n) (h1 : n ≤ 1099511627776) (w : World) (ht : Lib.TabIs Tryd.prog w "internal/strconv.uint64pow10" .u64 Lib.pow10Tab) :
    Calls Tryd.prog 73 #[.int .i64 n] w fun e w' => e = .returned (.string ⟨(Lib.itoa n).toArray⟩) ∧ Below w.heap.size w w' :=
  (Tryd.strconv_Itoa n (by omega) (by omega) w ht).mono fun e w' ⟨he, k, os, hw⟩ => ⟨he, hw ▸ Lib.below_grow _ w (Nat.le_refl _) k os⟩
theorem str_val {a : ByteArray} {b : List UInt8} (h : a.data.toList = b) : Value.string a = .string ⟨b.toArray⟩ := by
  subst h
  rfl
theorem nDigits_le {u k : Nat} (h : u < 10 ^ (k + 1)) : Lib.nDigits u ≤ k + 1 := by
  induction k generalizing u with
  | zero => rw [Lib.nDigits_small (by simpa using h)]; exact Nat.le_refl _
  | succ k ih =>
    by_cases h10 : u < 10
    · rw [Lib.nDigits_small h10]; omega
    · rw [Lib.nDigits_big h10]
      have := ih (u := u / 10) (by rw [Nat.pow_succ] at h; omega)
      omega
theorem decDigits_len (n : Nat) (h : n ≤ 1099511627776) : (Lib.decDigits n).length ≤ 20 := by
  rw [Lib.decDigits_length]; exact nDigits_le (k := 19) (by omega)
theorem itoa_dec (n : Nat) : Lib.itoa (n : Int) = Lib.decDigits n := Lib.itoa_nonneg n
theorem itoa_len {n : Int} (h0 : 0 ≤ n) (h1 : n ≤ 1099511627776) : (Lib.itoa n).length ≤ 20 := by
  obtain ⟨k, rfl⟩ := Int.eq_ofNat_of_zero_le h0
  rw [itoa_dec]
  exact decDigits_len k (by omega)
def kRime : List UInt8 := [114, 105, 109, 101, 32]
def kAt : List UInt8 := [32, 97, 116, 32]
def kColon : List UInt8 := [58, 32]
def FD.text (f : FD) : List UInt8 := f.field ++ kAt ++ Lib.itoa f.at_ ++ kColon ++ (kRime ++ Lib.itoa f.why)

theorem errno_any (n : Int) (h0 : 0 ≤ n) (h1 : n ≤ 1099511627776) (w : World) (ht : Lib.TabIs Tryd.prog w "internal/strconv.uint64pow10" .u64 Lib.pow10Tab) :
    Calls Tryd.prog 51 #[.int .i64 n] w fun e w' => e = .returned (.string ⟨(kRime ++ Lib.itoa n).toArray⟩) ∧ Below w.heap.size w w' := by
  have hl := itoa_len h0 h1
  have q1 : ¬ (9223372036854775807 < 5 + (Lib.itoa n).length) := by omega
  go_enter Tryd.func51, Tryd.ntmps51
  go_wp2_with fail
  refine (itoa_any n h0 h1 w ht).mono ?_
  rintro e w1 ⟨rfl, h⟩
  go_wp2
  go_ret
  refine ⟨congrArg Ending.returned (str_val (by simp [kRime])), h⟩

theorem keepF {w W W' : World} {b : Nat} {fl : List UInt8} {fa fw : Int} (h : Below W.heap.size W W') (hS : W.cell? ⟨b, 0, none⟩ = some (.string ⟨fl.toArray⟩) ∧ W.cell? ⟨b, 1, none⟩ = some (.int .i64 fa) ∧ W.cell? ⟨b, 2, none⟩ = some (.int .i64 fw) ∧ Below w.heap.size w W) :
    W'.cell? ⟨b, 0, none⟩ = some (.string ⟨fl.toArray⟩) ∧ W'.cell? ⟨b, 1, none⟩ = some (.int .i64 fa) ∧ W'.cell? ⟨b, 2, none⟩ = some (.int .i64 fw) ∧ Below w.heap.size w W' :=
  ⟨cell_on h hS.1, cell_on h hS.2.1, cell_on h hS.2.2.1, later hS.2.2.2 h⟩

set_option maxHeartbeats 4000000 in
theorem ferror_any (b : Nat) (f : FD) (w : World) (hf : FaultAt w b f) (ht : Tab w.heap.size w) (h0 : 0 ≤ f.at_) (h1 : f.at_ ≤ 1099511627776) (h2 : 0 ≤ f.why) (h3 : f.why ≤ 1099511627776) (h4 : f.field.length ≤ 100) :
    Calls Tryd.prog 26 #[.pointer (some ⟨b, 0, none⟩)] w fun e w' => e = .returned (.string ⟨f.text.toArray⟩) ∧ Below w.heap.size w w' := by
  obtain ⟨fl, fa, fw⟩ := f
  simp only at h0 h1 h2 h3 h4
  have l1 := itoa_len h0 h1
  have l2 := itoa_len h2 h3
  have c0 : w.cell? ⟨b, 0, none⟩ = some (.string ⟨fl.toArray⟩) := cell_of hf rfl
  have c1 : w.cell? ⟨b, 1, none⟩ = some (.int .i64 fa) := cell_of hf rfl
  have c2 : w.cell? ⟨b, 2, none⟩ = some (.int .i64 fw) := cell_of hf rfl
  replace hf := Lib.hid hf
  replace ht := Lib.hid ht
  have hbb := Below.refl w.heap.size w
  have q1 : ¬ (9223372036854775807 < fl.length + 4) := by omega
  have q2 : ¬ (9223372036854775807 < fl.length + 4 + (Lib.itoa fa).length) := by omega
  have q3 : ¬ (9223372036854775807 < fl.length + 4 + (Lib.itoa fa).length + 2) := by omega
  have q4 : ¬ (9223372036854775807 < fl.length + 4 + (Lib.itoa fa).length + 2 + (kRime.length + (Lib.itoa fw).length)) := by
    have : kRime.length = 5 := rfl
    omega
  go_enter Tryd.func26, Tryd.ntmps26
  go_wp2_with fail
  go_region_held3 (fun w' => w'.cell? ⟨b, 0, none⟩ = some (.string ⟨fl.toArray⟩) ∧ w'.cell? ⟨b, 1, none⟩ = some (.int .i64 fa) ∧ w'.cell? ⟨b, 2, none⟩ = some (.int .i64 fw) ∧ Below w.heap.size w w')
    (first | ((try dsimp only); exact ⟨c0, c1, c2, hbb.drew⟩) | (go_split_ands; exact keepF (by assumption) ⟨by assumption, by assumption, by assumption, by assumption⟩))
    (first
      | (go_at_call 73; go_split_ands; refine (itoa_any _ ?_ ?_ _ (ht.out.at ?_)).mono ?_; (omega); (omega); (assumption); rintro e w' ⟨rfl, hb'⟩)
      | (go_at_call 51; go_split_ands; refine (errno_any _ ?_ ?_ _ (ht.out.at ?_)).mono ?_; (omega); (omega); (assumption); rintro e w' ⟨rfl, hb'⟩))
  all_goals
    go_split_ands
    go_wp2
    go_ret
    refine ⟨congrArg Ending.returned (str_val (by simp [FD.text, kAt, kColon, kRime])), by assumption⟩

theorem funwrap_any (b : Nat) (f : FD) (w : World) (hf : FaultAt w b f) :
    Calls Tryd.prog 27 #[.pointer (some ⟨b, 0, none⟩)] w fun e w' => e = .returned (.iface 34 (.int .i64 f.why)) ∧ w' = w := by
  have c2 : w.cell? ⟨b, 2, none⟩ = some (.int .i64 f.why) := cell_of hf rfl
  go_enter Tryd.func27, Tryd.ntmps27
  go_wp2
  go_ret
  exact ⟨rfl, rfl⟩

/-! ### errors.Is of a fault and its number -/
section
open Go.Extern.Stop Go.Stop Go.Extern
theorem is_typeOf (v : Value) (w : World) : (callFunc 80 #[.iface 34 v]).run Tryd.prog w = .ok (.value (.iface 200 (.agg #[.pointer (some ⟨Tryd.prog.globals.size, 34, none⟩)]))) w := by kernel_rfl
theorem is_comp (n : Nat) (hn : n = Tryd.prog.globals.size) (w : World) : (callFunc 139 #[.agg #[.pointer (some ⟨n, 34, none⟩)]]).run Tryd.prog w = .ok (.value (.bool true)) w := by
  subst hn
  kernel_rfl
theorem is_mComp (v : Value) (w : World) : (Go.method 162 200 v "Comparable").run Tryd.prog w = .ok (139, v) w := by kernel_rfl
theorem is_noIs (v : Value) (xT : TypeId) (w : World) : (Instr.typeAssert (.iface 79 v) xT 202 true).run Tryd.prog w = .ok (.tuple #[.nilIface, .bool false]) w := run_typeAssert_lacksB Tryd.underlying202 (by kernel_rfl) (by kernel_rfl) v xT w
theorem is_hasU (v : Value) (xT : TypeId) (w : World) : (Instr.typeAssert (.iface 79 v) xT 204 true).run Tryd.prog w = .ok (.tuple #[.iface 79 v, .bool true]) w := run_typeAssert_hasB Tryd.underlying204 (by kernel_rfl) v xT w
theorem is_mU (v : Value) (w : World) : (Go.method 204 79 v "Unwrap").run Tryd.prog w = .ok (27, v) w := by kernel_rfl

theorem is_eq (x y : Int) (w : World) : (binOp BinOp.eql 38 (.iface 34 (.int .i64 x)) (.iface 34 (.int .i64 y))).run Tryd.prog w = .ok (.bool (decide (x = y))) w := by kernel_rfl

set_option maxHeartbeats 8000000 in
theorem is_fault (b : Nat) (f : FD) (w : World) (hf : FaultAt w b f) :
    Calls Tryd.prog 49 #[errOf b, .iface 34 (.int .i64 f.why)] w fun e w' => e = .returned (.bool true) ∧ w' = w := by
  have hu := Lib.hid (funwrap_any b f w hf)
  generalize f.why = y at hu ⊢
  have h7 := is_eq y y
  have h1 := is_typeOf
  have h3 := is_mComp
  have h4 := is_noIs
  have h5 := is_hasU
  have h6 := is_mU
  have hty := run_eql_iface_types (P := Tryd.prog) 79 34 (.pointer (some ⟨b, 0, none⟩)) (.int .i64 y) Tryd.underlying38 (by decide) w
  go_enter Tryd.func49, Tryd.ntmps49
  go_wp2_with fail
  rw [is_comp _ (by kernel_rfl)]
  rw [Oper.upon_value]
  go_wp2
  refine wp_loop_rounds 2 ?_
  rw [rounds_succ]
  go_wp2_with (go_at_call 27; refine hu.out.mono ?_; rintro e w' ⟨rfl, rfl⟩)
  rw [rounds_succ]
  go_wp2_with fail
  go_ret
  exact ⟨rfl, rfl⟩
end
end Go.Proofs.YtmnmmabhmedioaaDoor
