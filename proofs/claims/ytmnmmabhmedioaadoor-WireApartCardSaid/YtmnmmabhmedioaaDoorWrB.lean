/- Wire: the law's look at a fault. -/
import Derived.Test.YtmnmmabhmedioaaDoorWrA
namespace Go.Proofs.YtmnmmabhmedioaaDoor
open Go.RowKit
set_option linter.unusedVariables false
set_option linter.unusedSimpArgs false
set_option maxRecDepth 100000

/-! ### the law's dec -/
theorem conv_new (w : World) (l : List UInt8) (c : Nat) :
    (convert 22 9 (.slice (some ⟨w.heap.size, 0, none⟩) l.length c)).run Tryd.prog (w.alloc (.cells (l.map B8).toArray 5)) = .ok (.string ⟨l.toArray⟩) (w.alloc (.cells (l.map B8).toArray 5)) := by
  refine run_convert_bytes_back _ _ _ 5 ⟨w.heap.size, 0, none⟩ c l Tryd.underlying22 Tryd.underlying5 Tryd.underlying9 ?_
  intro k hk
  have h := heap_alloc_new w (.cells (l.map B8).toArray 5)
  rw [Go.WideShapes.add_plain]
  exact cell_of h (by simp [hk]; rfl)
theorem conv_one (w : World) (v : Int) (h0 : 0 ≤ v) (h1 : v < 256) :
    (convert 22 9 (.slice (some ⟨w.heap.size, 0, none⟩) 1 1)).run Tryd.prog (w.alloc (.cells #[.int .u8 v] 5)) = .ok (.string ⟨#[UInt8.ofNat v.toNat]⟩) (w.alloc (.cells #[.int .u8 v] 5)) := by
  have h := conv_new w [UInt8.ofNat v.toNat] 1
  have e : nb (UInt8.ofNat v.toNat) = v := by unfold nb; rw [UInt8.toNat_ofNat']; omega
  simpa [B8, e] using h

set_option maxHeartbeats 4000000 in
theorem dec_any : ∀ (n : Nat), n ≤ 1099511627776 → ∀ w : World,
    Calls Tryd.prog 50 #[.int .i64 (n : Int)] w fun e w' => e = .returned (.string ⟨(Lib.decDigits n).toArray⟩) ∧ Below w.heap.size w w' := by
  intro n
  induction n using Nat.strongRecOn with
  | _ n ih =>
    intro hn w
    have hv := conv_one w (48 + (n : Int) % 10) (by omega) (by omega)
    have e : (48 + (n : Int) % 10).toNat = 48 + n % 10 := by omega
    rw [e] at hv
    clear e
    by_cases h : n < 10
    · clear ih
      have e2 : n % 10 = n := by omega
      rw [e2] at hv
      clear e2
      have hs := Lib.hid (Lib.decDigits_one h)
      generalize UInt8.ofNat (48 + n) = x at hv hs
      go_enter Tryd.func50, Tryd.ntmps50
      go_wp2
      go_ret
      exact ⟨by rw [hs.out]; rfl, boxed _ _⟩
    · have hs := Lib.hid (show Lib.decDigits n = Lib.decDigits (n / 10) ++ [UInt8.ofNat (48 + n % 10)] by rw [Lib.decDigits, dif_neg h])
      have hl := decDigits_len (n / 10) (by omega)
      have ih2 : Hid (∀ w : World, Calls Tryd.prog 50 #[.int .i64 ((n : Int) / 10)] w fun e w' => e = .returned (.string ⟨(Lib.decDigits (n / 10)).toArray⟩) ∧ Below w.heap.size w w') := by
        rw [show (n : Int) / 10 = ((n / 10 : Nat) : Int) from by omega]
        exact Lib.hid (ih (n / 10) (by omega) (by omega))
      clear ih
      generalize UInt8.ofNat (48 + n % 10) = x at hv hs
      generalize Lib.decDigits (n / 10) = ds at hs hl ih2
      go_enter Tryd.func50, Tryd.ntmps50
      go_wp2_with fail
      refine (ih2.out _).mono ?_
      rintro e w1 ⟨rfl, b1⟩
      go_wp2
      go_ret
      exact ⟨by rw [hs.out]; exact congrArg Ending.returned (str_val (by simp)), later (boxed _ _) b1⟩
theorem dec_int (n : Int) (h0 : 0 ≤ n) (h1 : n ≤ 1099511627776) (w : World) :
    Calls Tryd.prog 50 #[.int .i64 n] w fun e w' => e = .returned (.string ⟨(Lib.itoa n).toArray⟩) ∧ Below w.heap.size w w' := by
  obtain ⟨m, rfl⟩ := Int.eq_ofNat_of_zero_le h0
  rw [Lib.itoa_nonneg]
  exact dec_any m (by omega) w

theorem none_no (f : FD) (h : f.field ≠ []) (w : World) :
    Calls Tryd.prog 18 #[.agg #[.string ⟨f.field.toArray⟩, .int .i64 f.at_, .int .i64 f.why]] w fun e w' => e = .returned (.bool false) ∧ Below w.heap.size w w' := by
  have he : f.field.isEmpty = false := by simpa using h
  go_enter Tryd.func18, Tryd.ntmps18
  go_wp2
  go_ret
  exact ⟨rfl, boxed _ _⟩
theorem none_yes (at_ why : Value) (w : World) :
    Calls Tryd.prog 18 #[.agg #[.string ⟨#[]⟩, at_, why]] w fun e w' => e = .returned (.bool true) ∧ Below w.heap.size w w' := by
  go_enter Tryd.func18, Tryd.ntmps18
  go_wp2
  go_ret
  exact ⟨rfl, boxed _ _⟩

theorem ta_fault (v : Value) (w : World) : (Instr.typeAssert (.iface 79 v) 38 79 true).run Tryd.prog w = .ok (.tuple #[v, .bool true]) w := by kernel_rfl
theorem is_faultB (b : Nat) (f : FD) (w : World) (hf : FaultAt w b f) :
    Calls Tryd.prog 49 #[errOf b, .iface 34 (.int .i64 f.why)] w fun e w' => e = .returned (.bool true) ∧ Below w.heap.size w w' :=
  (is_fault b f w hf).mono fun e w' ⟨h1, h2⟩ => ⟨h1, h2 ▸ Below.refl _ _⟩
theorem keepFF {w W W' : World} {b X : Nat} {fl : List UInt8} {fa fw : Int} (h : Below W.heap.size W W') (hS : W.cell? ⟨b, 0, none⟩ = some (.string ⟨fl.toArray⟩) ∧ W.cell? ⟨b, 1, none⟩ = some (.int .i64 fa) ∧ W.cell? ⟨b, 2, none⟩ = some (.int .i64 fw) ∧ W.cell? ⟨X, 0, none⟩ = some (.string ⟨fl.toArray⟩) ∧ W.cell? ⟨X, 1, none⟩ = some (.int .i64 fa) ∧ W.cell? ⟨X, 2, none⟩ = some (.int .i64 fw) ∧ FaultAt W b ⟨fl, fa, fw⟩ ∧ Below w.heap.size w W) : W'.cell? ⟨b, 0, none⟩ = some (.string ⟨fl.toArray⟩) ∧ W'.cell? ⟨b, 1, none⟩ = some (.int .i64 fa) ∧ W'.cell? ⟨b, 2, none⟩ = some (.int .i64 fw) ∧ W'.cell? ⟨X, 0, none⟩ = some (.string ⟨fl.toArray⟩) ∧ W'.cell? ⟨X, 1, none⟩ = some (.int .i64 fa) ∧ W'.cell? ⟨X, 2, none⟩ = some (.int .i64 fw) ∧ FaultAt W' b ⟨fl, fa, fw⟩ ∧ Below w.heap.size w W' :=
  ⟨cell_on h hS.1, cell_on h hS.2.1, cell_on h hS.2.2.1, cell_on h hS.2.2.2.1, cell_on h hS.2.2.2.2.1, cell_on h hS.2.2.2.2.2.1, hS.2.2.2.2.2.2.1.on h, later hS.2.2.2.2.2.2.2 h⟩

set_option maxHeartbeats 8000000 in
theorem fault_true (b : Nat) (f : FD) (w : World) (hf : FaultAt w b f) (hne : f.field ≠ []) (ht : Tab w.heap.size w) (h0 : 0 ≤ f.at_) (h1 : f.at_ ≤ 1099511627776) (h2 : 0 ≤ f.why) (h3 : f.why ≤ 1099511627776) (h4 : f.field.length ≤ 100) :
    Calls Tryd.prog 14 #[errOf b, .agg #[.string ⟨f.field.toArray⟩, .int .i64 f.at_, .int .i64 f.why]] w fun e w' => e = .returned (.bool true) ∧ Below w.heap.size w w' := by
  obtain ⟨fl, fa, fw⟩ := f
  simp only at h0 h1 h2 h3 h4 hne
  replace hne := Lib.hid hne
  replace hf := Lib.hid hf
  replace ht := Lib.hid ht
  go_enter Tryd.func14, Tryd.ntmps14
  go_wp2_with fail
  refine (none_no ⟨fl, fa, fw⟩ hne.out _).mono ?_
  rintro e w1 ⟨rfl, hb1⟩
  have hta : (Instr.typeAssert (errOf b) 38 79 true).run Tryd.prog w1 = .ok (.tuple #[.pointer (some ⟨b, 0, none⟩), .bool true]) w1 := ta_fault _ _
  have hX := heap_alloc_new w (.cells #[.string ⟨fl.toArray⟩, .int .i64 fa, .int .i64 fw] 42)
  have hbw := later (boxed _ _) hb1
  have c := heap_on hbw hf.out
  have d := heap_on hb1 hX
  have c0 : w1.cell? ⟨b, 0, none⟩ = some (.string ⟨fl.toArray⟩) := cell_of c rfl
  have c1 : w1.cell? ⟨b, 1, none⟩ = some (.int .i64 fa) := cell_of c rfl
  have c2 : w1.cell? ⟨b, 2, none⟩ = some (.int .i64 fw) := cell_of c rfl
  have d0 : w1.cell? ⟨w.heap.size, 0, none⟩ = some (.string ⟨fl.toArray⟩) := cell_of d rfl
  have d1 : w1.cell? ⟨w.heap.size, 1, none⟩ = some (.int .i64 fa) := cell_of d rfl
  have d2 : w1.cell? ⟨w.heap.size, 2, none⟩ = some (.int .i64 fw) := cell_of d rfl
  have hcc : FaultAt w1 b ⟨fl, fa, fw⟩ := c
  clear hX hb1 c d
  have l1 := itoa_len h0 h1
  have l2 := itoa_len h2 h3
  have q1 : ¬ (9223372036854775807 < fl.length + 4) := by omega
  have q2 : ¬ (9223372036854775807 < fl.length + 4 + (Lib.itoa fa).length) := by omega
  have q3 : ¬ (9223372036854775807 < fl.length + 4 + (Lib.itoa fa).length + 2) := by omega
  have q4 : ¬ (9223372036854775807 < fl.length + 4 + (Lib.itoa fa).length + 2 + (kRime.length + (Lib.itoa fw).length)) := by
    have : kRime.length = 5 := rfl
    omega
  have hcat : Hid ((({ data := fl.toArray } : ByteArray) ++ { data := #[32, 97, 116, 32] } ++ { data := (Lib.itoa fa).toArray } ++ { data := #[58, 32] } ++ { data := (kRime ++ Lib.itoa fw).toArray }) = ⟨(FD.text ⟨fl, fa, fw⟩).toArray⟩) := Lib.hid (by
    have h := str_val (a := (({ data := fl.toArray } : ByteArray) ++ { data := #[32, 97, 116, 32] } ++ { data := (Lib.itoa fa).toArray } ++ { data := #[58, 32] } ++ { data := (kRime ++ Lib.itoa fw).toArray })) (b := FD.text ⟨fl, fa, fw⟩) (by simp [FD.text, kAt, kColon])
    injection h)
  have hcat2 := hcat.out
  go_upto_region 6 with fail
  go_region_held3 (fun w' => w'.cell? ⟨b, 0, none⟩ = some (.string ⟨fl.toArray⟩) ∧ w'.cell? ⟨b, 1, none⟩ = some (.int .i64 fa) ∧ w'.cell? ⟨b, 2, none⟩ = some (.int .i64 fw) ∧ w'.cell? ⟨w.heap.size, 0, none⟩ = some (.string ⟨fl.toArray⟩) ∧ w'.cell? ⟨w.heap.size, 1, none⟩ = some (.int .i64 fa) ∧ w'.cell? ⟨w.heap.size, 2, none⟩ = some (.int .i64 fw) ∧ FaultAt w' b ⟨fl, fa, fw⟩ ∧ Below w.heap.size w w')
    (first | ((try dsimp only); exact ⟨c0, c1, c2, d0, d1, d2, hcc, hbw.drew⟩) | (go_split_ands; exact keepFF (by assumption) ⟨by assumption, by assumption, by assumption, by assumption, by assumption, by assumption, by assumption, by assumption⟩))
    (first
      | (go_at_call 49; go_split_ands; refine (is_faultB b ⟨fl, fa, fw⟩ _ (by assumption)).mono ?_; rintro e w' ⟨rfl, hb'⟩)
      | (go_at_call 26; go_split_ands; refine (ferror_any b ⟨fl, fa, fw⟩ _ (by assumption) (ht.out.on (by assumption)) h0 h1 h2 h3 h4).mono ?_; rintro e w' ⟨rfl, hb'⟩)
      | (go_at_call 50; refine (dec_int _ h0 h1 _).mono ?_; rintro e w' ⟨rfl, hb'⟩)
      | (go_at_call 51; go_split_ands; refine (errno_any _ ?_ ?_ _ (ht.out.at ?_)).mono ?_; (omega); (omega); (assumption); rintro e w' ⟨rfl, hb'⟩))
  all_goals
    go_split_ands
    go_wp2
    go_ret
    refine ⟨?_, by assumption⟩
    rw [← hcat.out]
    simp
end Go.Proofs.YtmnmmabhmedioaaDoor
