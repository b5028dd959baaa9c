/- Wire: numbers as bytes. -/
import Derived.Test.YtmnmmabhmedioaaDoorWrA
namespace Go.Proofs.YtmnmmabhmedioaaDoor
open Go.RowKit
set_option linter.unusedVariables false
set_option linter.unusedSimpArgs false
set_option maxRecDepth 100000

def four (n : Nat) : List UInt8 := [UInt8.ofNat (n / 16777216), UInt8.ofNat (n / 65536), UInt8.ofNat (n / 256), UInt8.ofNat n]
def two (n : Nat) : List UInt8 := [UInt8.ofNat (n / 256), UInt8.ofNat n]
theorem b8_of (n : Nat) : nb (UInt8.ofNat n) = (n : Int) % 256 := by unfold nb; rw [UInt8.toNat_ofNat']; omega

theorem OwnB.made (w : World) (l : List UInt8) (h : l.length ≤ 1000) : OwnB (w.alloc (.cells (l.map B8).toArray 5)) w.heap.size (some ⟨w.heap.size, 0, none⟩) l.length l := by
  refine ⟨by simp, .inr ⟨w.heap.size, l.length, _, rfl, Nat.le_refl _, heap_alloc_new w _, Nat.le_refl _, by unfold maxLen; omega, by simp, ?_⟩⟩
  show List.take (l.length * 1) (l.map B8) = _
  rw [List.take_of_length_le (by simp)]

set_option maxHeartbeats 4000000 in
theorem highest4 (n : Nat) (hn : n ≤ 1099511627776) (w : World) :
    Calls Tryd.prog 53 #[.int .i64 (n : Int), .int .i64 4] w fun e w' => e = .returned (.slice (some ⟨w.heap.size, 0, none⟩) 4 4) ∧ OwnB w' w.heap.size (some ⟨w.heap.size, 0, none⟩) 4 (four n) ∧ Below w.heap.size w w' := by
  have hm : (Instr.makeSlice 22 (.int .i64 4) (.int .i64 4)).run Tryd.prog w = .ok (.slice (some ⟨w.heap.size, 0, none⟩) 4 4) (w.alloc (.cells #[.int .u8 0, .int .u8 0, .int .u8 0, .int .u8 0] 5)) := by kernel_rfl
  go_enter Tryd.func53, Tryd.ntmps53
  go_wp2
  refine wp_loop_rounds 5 ?_
  rw [rounds_succ]
  go_wp2
  rw [rounds_succ]
  go_wp2
  rw [rounds_succ]
  go_wp2
  rw [rounds_succ]
  go_wp2
  rw [rounds_succ]
  go_wp2
  go_ret
  have e : #[Value.int IntKind.u8 ((n : Int) / 16777216 % 256), Value.int IntKind.u8 ((n : Int) / 65536 % 256), Value.int IntKind.u8 ((n : Int) / 256 % 256), Value.int IntKind.u8 ((n : Int) % 256)] = ((four n).map B8).toArray := by simp [four, B8, b8_of]
  rw [e]
  exact ⟨rfl, OwnB.made w (four n) (by simp [four]), boxed _ _⟩

set_option maxHeartbeats 4000000 in
theorem highest2 (n : Nat) (hn : n ≤ 1099511627776) (w : World) :
    Calls Tryd.prog 53 #[.int .i64 (n : Int), .int .i64 2] w fun e w' => e = .returned (.slice (some ⟨w.heap.size, 0, none⟩) 2 2) ∧ OwnB w' w.heap.size (some ⟨w.heap.size, 0, none⟩) 2 (two n) ∧ Below w.heap.size w w' := by
  have hm : (Instr.makeSlice 22 (.int .i64 2) (.int .i64 2)).run Tryd.prog w = .ok (.slice (some ⟨w.heap.size, 0, none⟩) 2 2) (w.alloc (.cells #[.int .u8 0, .int .u8 0] 5)) := by kernel_rfl
  go_enter Tryd.func53, Tryd.ntmps53
  go_wp2
  refine wp_loop_rounds 3 ?_
  rw [rounds_succ]
  go_wp2
  rw [rounds_succ]
  go_wp2
  rw [rounds_succ]
  go_wp2
  go_ret
  have e : #[Value.int IntKind.u8 ((n : Int) / 256 % 256), Value.int IntKind.u8 ((n : Int) % 256)] = ((two n).map B8).toArray := by simp [two, B8, b8_of]
  rw [e]
  exact ⟨rfl, OwnB.made w (two n) (by simp [two]), boxed _ _⟩

/-- The number of bytes, the highest first. -/
def numL (l : List UInt8) : Nat := l.foldl (fun n x => n * 256 + x.toNat) 0
theorem numL_take_succ {l : List UInt8} {k : Nat} (h : k < l.length) : numL (l.take (k + 1)) = numL (l.take k) * 256 + (l.getD k 0).toNat := by
  unfold numL
  rw [List.take_succ_eq_append_getElem h, List.foldl_append, List.getD_eq_getElem?_getD, List.getElem?_eq_getElem h]
  rfl
theorem numL_lt (l : List UInt8) : numL l < 256 ^ l.length := by
  have h : ∀ (l : List UInt8) (n : Nat), l.foldl (fun n x => n * 256 + x.toNat) n < (n + 1) * 256 ^ l.length := by
    intro l
    induction l with
    | nil => intro n; simp
    | cons x l ih =>
      intro n
      have hx := x.toNat_lt
      have := ih (n * 256 + x.toNat)
      simp only [List.foldl_cons, List.length_cons, Nat.pow_succ]
      refine Nat.lt_of_lt_of_le this ?_
      rw [Nat.mul_comm (256 ^ l.length) 256, ← Nat.mul_assoc]
      exact Nat.mul_le_mul_right _ (by omega)
  simpa [numL] using h l 0
theorem numL_four (n : Nat) (h : n < 4294967296) : numL (four n) = n := by
  simp only [numL, four, List.foldl_cons, List.foldl_nil, UInt8.toNat_ofNat']
  omega
theorem numL_two (n : Nat) (h : n < 65536) : numL (two n) = n := by
  simp only [numL, two, List.foldl_cons, List.foldl_nil, UInt8.toNat_ofNat']
  omega
theorem or_add (n : Nat) (x : UInt8) (h : n < 16777216) : bits .or .i64 ((n : Int) * 256) (nb x) = ((n * 256 + x.toNat : Nat) : Int) := by
  have hx := nb_bd x
  have e : (2 : Int) ^ 63 = 9223372036854775808 := rfl
  rw [bits_join .i64 63 (by decide) (fun n h0 h1 => by rw [IntKind.wrap_i64]; omega) 8 _ _ (by omega) (by omega) (by omega) hx.1 (by omega) (by omega)]
  unfold nb
  omega

set_option maxHeartbeats 4000000 in
theorem numberOf_any (A : Option Addr) (c : Nat) (l : List UInt8) (w : World) (hb : Bs w A l) (hl : l.length ≤ 4) :
    Calls Tryd.prog 43 #[.slice A l.length c] w fun e w' => e = .returned (.int .i64 (numL l : Int)) ∧ w = w' := by
  have HB := Lib.hid hb
  clear hb
  go_enter Tryd.func43, Tryd.ntmps43
  go_wp2
  go_loopw [3, 8] (fun s i wr => ∃ k : Nat, k ≤ l.length ∧ i = .int .i64 k ∧ s = .int .i64 (numL (l.take k) : Int) ∧ w = wr) (fun _ i _ => l.length - (intOf i).toNat)
  case atStart => exact ⟨0, Nat.zero_le _, rfl, by simp [numL], rfl⟩
  case round =>
    obtain ⟨k, hk, rfl, rfl, rfl⟩ := hrel
    rcases Nat.lt_or_ge k l.length with hlt | hge
    · obtain ⟨b, o, rfl, H⟩ := HB.out (by omega)
      have c1 := H k hlt
      have hs := Lib.hid (numL_take_succ hlt)
      have hn := numL_lt (l.take k)
      have hk3 : k ≤ 3 := by omega
      have hn2 : numL (l.take k) < 16777216 := Nat.lt_of_lt_of_le hn (by
        rw [List.length_take, Nat.min_eq_left (by omega)]
        calc 256 ^ k ≤ 256 ^ 3 := Nat.pow_le_pow_right (by omega) hk3
          _ = 16777216 := rfl)
      have hor := or_add (numL (l.take k)) (l.getD k 0) hn2
      clear hn H HB
      generalize l.getD k 0 = x at *
      generalize numL (l.take k) = n at *
      have hw : IntKind.i64.wrap ((n : Int) * 256) = (n : Int) * 256 := by rw [IntKind.wrap_i64]; omega
      have k0 : (0 : Int) ≤ (k : Int) := by omega
      have k1 : (k : Int) < (l.length : Int) := by omega
      have hwx : wrap64 (nb x) = nb x := by have := nb_bd x; exact IntWalk.wrap64_in _ ⟨by omega, by omega⟩
      go_wp2
      exact ⟨⟨k + 1, by omega, by go_num, by rw [hs.out]; simp, trivial⟩, by simp [intOf]; omega⟩
    · have : k = l.length := by omega
      subst this
      rw [List.take_length]
      go_wp2
      go_ret
      exact ⟨rfl, rfl⟩
end Go.Proofs.YtmnmmabhmedioaaDoor
