/- The reference: dec, May, rules. -/
import Derived.Test.YtabinbeohecebaaDoorRuE
import Derived.Laws.IdiomStrings
namespace Go.Proofs.YtabinbeohecebaaDoor
open Go.RowKit
set_option linter.unusedVariables false
set_option linter.unusedSimpArgs false

theorem decDigits_len (n : Nat) (h : n ≤ 2147483647) : (Lib.decDigits n).length ≤ 10 := by
  rw [Lib.decDigits_length]; exact nDigits_le (k := 9) (by omega)

/-- string(b) of bytes that were just made. -/
theorem conv_new (w : World) (l : List UInt8) (c : Nat) :
    (convert 33 9 (.slice (some ⟨w.heap.size, 0, none⟩) l.length c)).run Tryd.prog (w.alloc (.cells (l.map B8).toArray 5)) = .ok (.string ⟨l.toArray⟩) (w.alloc (.cells (l.map B8).toArray 5)) := by
  refine run_convert_bytes_back _ _ _ 5 ⟨w.heap.size, 0, none⟩ c l Tryd.underlying33 Tryd.underlying5 Tryd.underlying9 ?_
  intro k hk
  have h := heap_alloc_new w (.cells (l.map B8).toArray 5)
  rw [Go.WideShapes.add_plain]
  exact cell_of h (by simp [hk]; rfl)
theorem conv_one (w : World) (v : Int) (h0 : 0 ≤ v) (h1 : v < 256) :
    (convert 33 9 (.slice (some ⟨w.heap.size, 0, none⟩) 1 1)).run Tryd.prog (w.alloc (.cells #[.int .u8 v] 5)) = .ok (.string ⟨#[UInt8.ofNat v.toNat]⟩) (w.alloc (.cells #[.int .u8 v] 5)) := by
  have h := conv_new w [UInt8.ofNat v.toNat] 1
  have e : nb (UInt8.ofNat v.toNat) = v := by unfold nb; rw [UInt8.toNat_ofNat']; omega
  simpa [B8, e] using h

set_option maxRecDepth 100000 in
set_option maxHeartbeats 4000000 in
theorem dec_any : ∀ (n : Nat), n ≤ 2147483647 → ∀ w : World,
    Calls Tryd.prog 26 #[.int .i64 (n : Int)] w fun e w' => e = .returned (.string ⟨(Lib.decDigits n).toArray⟩) ∧ Below w.heap.size w w' := by
  intro n
  induction n using Nat.strongRecOn with
  | _ n ih =>
    intro hn w
    have hv := conv_one w (48 + (n : Int) % 10) (by omega) (by omega)
    have e : (48 + (n : Int) % 10).toNat = 48 + n % 10 := by omega
    rw [e] at hv
    clear e
    by_cases h : n < 10
    · clear ih
      have e2 : n % 10 = n := by omega
      rw [e2] at hv
      clear e2
      have hs := Lib.hid (Lib.decDigits_one h)
      generalize UInt8.ofNat (48 + n) = x at hv hs
      go_enter Tryd.func26, Tryd.ntmps26
      go_wp2
      go_ret
      exact ⟨by rw [hs.out]; rfl, boxed _ _⟩
    · have hs := Lib.hid (show Lib.decDigits n = Lib.decDigits (n / 10) ++ [UInt8.ofNat (48 + n % 10)] by rw [Lib.decDigits, dif_neg h])
      have hl := decDigits_len (n / 10) (by omega)
      have ih2 : Hid (∀ w : World, Calls Tryd.prog 26 #[.int .i64 ((n : Int) / 10)] w fun e w' => e = .returned (.string ⟨(Lib.decDigits (n / 10)).toArray⟩) ∧ Below w.heap.size w w') := by
        rw [show (n : Int) / 10 = ((n / 10 : Nat) : Int) from by omega]
        exact Lib.hid (ih (n / 10) (by omega) (by omega))
      clear ih
      generalize UInt8.ofNat (48 + n % 10) = x at hv hs
      generalize Lib.decDigits (n / 10) = ds at hs hl ih2
      go_enter Tryd.func26, Tryd.ntmps26
      go_wp2_with fail
      refine (ih2.out _).mono ?_
      rintro e w1 ⟨rfl, b1⟩
      go_wp2
      go_ret
      exact ⟨by rw [hs.out]; exact congrArg Ending.returned (str_val (by simp)), later (boxed _ _) b1⟩

end Go.Proofs.YtabinbeohecebaaDoor
