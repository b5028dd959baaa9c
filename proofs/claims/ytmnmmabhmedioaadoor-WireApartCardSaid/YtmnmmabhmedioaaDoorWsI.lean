/- Wire: the law WireSpoilt: the walk. -/
import Derived.Test.YtmnmmabhmedioaaDoorWsH
import Derived.Test.YtmnmmabhmedioaaDoorWsC
import Derived.Test.YtmnmmabhmedioaaDoorWrN
namespace Go.Proofs.YtmnmmabhmedioaaDoor
open Go.RowKit
set_option linter.unusedVariables false
set_option linter.unusedSimpArgs false
set_option maxRecDepth 100000

theorem i64_and3 (n : Int) : bits .and .i64 n 3 = n % 4 := by
  have h3 : (BitVec.ofInt 64 3).toNat = 2 ^ 2 - 1 := by decide
  have key : (BitVec.ofInt 64 n &&& BitVec.ofInt 64 3).toNat = (n % ((2 ^ 64 : Nat) : Int)).toNat % 2 ^ 2 := by
    rw [BitVec.toNat_and, BitVec.toNat_ofInt, h3, Nat.and_two_pow_sub_one_eq_mod]
  show IntKind.i64.wrap ((BitVec.ofInt 64 n &&& BitVec.ofInt 64 3).toNat : Nat) = n % 4
  rw [key, IntKind.wrap_i64]
  omega
theorem b_xor (x y : UInt8) : bits .xor .u8 (nb x) (nb y) = nb (x ^^^ y) := by
  unfold nb
  rw [u8_xor_nat _ _ x.toNat_lt y.toNat_lt, UInt8.toNat_xor]
theorem xor_ne (x y : UInt8) (h : y ≠ 0) : x ^^^ y ≠ x := fun e => h (by
  have h1 : x ^^^ (x ^^^ y) = x ^^^ x := by rw [e]
  rwa [← UInt8.xor_assoc, UInt8.xor_self, UInt8.zero_xor] at h1)

theorem err_eq (v : Value) (w : World) : (binOp BinOp.eql 38 (.iface 79 v) .nilIface).run Tryd.prog w = .ok (.bool false) w := by kernel_rfl
theorem err_ne (v : Value) (w : World) : (binOp BinOp.neq 38 (.iface 79 v) .nilIface).run Tryd.prog w = .ok (.bool true) w := by kernel_rfl
theorem nil_eq (w : World) : (binOp BinOp.eql 38 .nilIface .nilIface).run Tryd.prog w = .ok (.bool true) w := by kernel_rfl
theorem nil_ne (w : World) : (binOp BinOp.neq 38 .nilIface .nilIface).run Tryd.prog w = .ok (.bool false) w := by kernel_rfl

theorem faultM_facts {m : Msg} {f : FD} (h : faultM m = some f) : f.field ≠ [] ∧ 0 ≤ f.at_ ∧ f.at_ ≤ 255 ∧ 0 ≤ f.why ∧ f.why ≤ 300 ∧ f.field.length ≤ 100 := by
  unfold faultM at h
  by_cases c1 : ¬ (1 ≤ m.kind ∧ m.kind ≤ 6)
  · rw [if_pos c1] at h; cases h; exact ⟨by simp [kKind], by decide, by decide, by decide, by decide, by decide⟩
  rw [if_neg c1] at h
  by_cases c2 : ¬ (0 ≤ m.from_ ∧ m.from_ ≤ 255)
  · rw [if_pos c2] at h; cases h; exact ⟨by simp [kFrom], by decide, by decide, by decide, by decide, by decide⟩
  rw [if_neg c2] at h
  by_cases c3 : ¬ (0 ≤ m.to_ ∧ m.to_ ≤ 255)
  · rw [if_pos c3] at h; cases h; exact ⟨by simp [kTo], by decide, by decide, by decide, by decide, by decide⟩
  rw [if_neg c3] at h
  by_cases c4 : m.kind = 2 ∨ m.kind = 4
  · rw [if_pos c4] at h
    by_cases c5 : isId m.pair.id = true
    · rw [if_pos c5] at h; cases h
    · rw [if_neg c5] at h; cases h; exact ⟨by simp [kPair], by decide, by decide, by decide, by decide, by decide⟩
  rw [if_neg c4] at h
  by_cases c6 : m.kind = 3
  · rw [if_pos c6] at h
    by_cases c7 : 255 < m.list.length
    · rw [if_pos c7] at h; cases h; exact ⟨by simp [kList], by decide, by decide, by decide, by decide, by decide⟩
    rw [if_neg c7] at h
    cases hb : listBad 0 m.list with
    | some i =>
      rw [hb] at h; cases h
      obtain ⟨_, h1, _⟩ := listBad_lt m.list 0 i hb
      exact ⟨by simp [kList], by simp, by show (i : Int) ≤ 255; omega, by show (0 : Int) ≤ 4; decide, by show (4 : Int) ≤ 300; decide, by show kList.length ≤ 100; decide⟩
    | none =>
      rw [hb] at h
      by_cases c8 : 1048575 < m.text.length
      · simp only [if_pos c8] at h; cases h; exact ⟨by simp [kText], by decide, by decide, by decide, by decide, by decide⟩
      · simp only [if_neg c8] at h; cases h
  rw [if_neg c6] at h
  by_cases c9 : m.kind = 5
  · rw [if_pos c9] at h
    by_cases c10 : 1 ≤ m.code ∧ m.code ≤ 65535
    · rw [if_pos c10] at h; cases h
    · rw [if_neg c10] at h; cases h; exact ⟨by simp [kCode], by decide, by decide, by decide, by decide, by decide⟩
  rw [if_neg c9] at h; cases h
theorem none_fd (o : Option FD) (h : ∀ f, o = some f → f.field ≠ []) (w : World) :
    Calls Tryd.prog 18 #[.agg (fdA o)] w fun e w' => e = .returned (.bool o.isNone) ∧ Below w.heap.size w w' := by
  cases o with
  | none => exact none_yes _ _ w
  | some f => exact none_no f (h f rfl) w
theorem step_loadR {P : Program} {w : World} {ops : Array Oper} {op : Oper} {a : Act} {K : Act → World → Prop} {Q : Exit → Act → World → Prop} {E : Prop} (hgd : op.guard = none) (ty : TypeId) (x : Operand) (ho : op.op = .load ty x)
    (b o : Nat) (hx : a.eval x = .pointer (some ⟨b, o, none⟩)) (cs : Array Value) (hc : RowAt w b o cs) (d : TypeDesc)
    (hu : P.underlying ty = some d) (hd : d.isRow = true) (hi : (P.info? ty).map (·.size) = some cs.size)
    (h : K (a.put op.dst (.agg cs)) w) : if Region.wanted op (yielded ops a.tmps) = true then Oper.wp P op a w K Q else E := by
  rw [if_pos (by simp [Region.wanted, hgd])]
  have h' := wp_load_mid (P := P) (w := w) (a := a) (K := K) (Q := Q) (op := op) ty x ho b o hx cs.toList d (fun j v hv => hc j v (by simpa using hv)) hu hd (by simpa using hi)
  simp only [Array.toArray_toList] at h'
  exact h' h
theorem rowAt_all {w : World} {X : Nat} {cs : Array Value} {T : TypeId} (h : w.heap[X]? = some (.cells cs T (0, 0))) : RowAt w X 0 cs := fun j v hv => by rw [Nat.zero_add]; exact cell_of h hv

/-- The example passes; a message is encoded: what stands ahead of every law's own test. -/
theorem works_neg (w : World) (ht : Tab w.heap.size w) : Calls Tryd.prog 15 #[] w fun e w' => e = .returned (.bool true) ∧ Below w.heap.size w w' := works_any w ht

set_option maxHeartbeats 16000000 in
theorem spoilt_early (cs : Array Value) (m : Msg) (LA : Option Addr) (lc : Nat) (TA : Option Addr) (tc : Nat) (w : World) (hM : MsgIn w cs m LA lc TA tc) (ht : Tab w.heap.size w) (at_ : Int) (y : UInt8) (hor : faultM m ≠ none ∨ y = 0) :
    Calls Tryd.prog 5 #[.agg cs, .int .i64 at_, .int .u8 (nb y)] w fun e w' => e = .returned (.bool true) ∧ Below w.heap.size w w' := by
  have hX := heap_alloc_new w (.cells cs 36)
  have hB := boxed w (.cells cs 36)
  have hif : (Tryd.prog.info? 36).map (·.size) = some cs.size := by rw [hM.cells.size]; kernel_rfl
  replace hM := Lib.hid hM
  replace ht := Lib.hid ht
  have g1 := err_eq
  have g2 := err_ne
  have g3 := nil_eq
  have g4 := nil_ne
  go_enter Tryd.func5, Tryd.ntmps5
  go_upto_region 1 with fail
  generalize w.alloc (.cells cs 36) = w1 at hX hB ⊢
  replace hX := Lib.hid hX
  replace hB := Lib.hid hB
  go_wp2_with fail
  refine (works_any w1 (ht.out.on hB.out)).mono ?_
  rintro e w2 ⟨rfl, hB2⟩
  have hX2 := Lib.hid (heap_on hB2 hX.out)
  have hB12 := Lib.hid (later hB.out hB2)
  clear hX hB hB2
  have hR2 := Lib.hid (rowAt_all hX2.out)
  go_wp2_with (refine wpList_loadM _ rfl _ _ rfl w.heap.size 0 rfl cs hR2.out _ Tryd.underlying36 rfl hif ?_)
  cases hf : faultM m with
  | some f =>
    refine (encode_bad cs m LA lc TA tc w2 (hM.out.on hB12.out) f hf).mono ?_
    rintro e w3 ⟨q, rfl, hF, hB3⟩
    have hB13 := Lib.hid (later hB12.out hB3)
    have hR3 := Lib.hid (hR2.out.on hB3)
    clear hF
    have hMd : Hid (MsgIn w3.drew cs m LA lc TA tc) := Lib.hid (hM.out.on hB13.out.drew)
    have hRd : Hid (RowAt w3.drew w.heap.size 0 cs) := Lib.hid hR3.out
    have hBd : Hid (Below w.heap.size w w3.drew) := Lib.hid hB13.out.drew
    have hn : Hid (∀ g, faultM m = some g → g.field ≠ []) := Lib.hid fun g hg => (faultM_facts hg).1
    replace hf := Lib.hid hf
    clear hX2 hB12 hR2 hB3 hB13 hR3
    go_upto_region 5 with fail
    refine wp_region_any (by kernel_rfl) ?_
    change wpAny _ _ _ _ _ _ _ w3.drew
    generalize w3.drew = wd at hMd hRd hBd ⊢
    refine wpAny_take (i := 0) (v := errOf q) rfl (by kernel_rfl) (by kernel_rfl) (by kernel_rfl) (fun _ _ _ h => h) (Or.inl ⟨by rfl, ?_⟩) ?_
    · intro w
      go_simp
    refine wpAny_take (i := 1) (v := .bool false) rfl (by kernel_rfl) (by kernel_rfl) (by kernel_rfl) (fun _ _ _ h => h) (Or.inl ⟨by rfl, ?_⟩) ?_
    · intro w
      go_simp
    refine wpAny_ready (rs := [2]) (by kernel_rfl) (by simp) ?_
    refine AllReady.cons rfl (fun K hK => ?_) AllReady.nil
    refine step_loadR rfl _ _ rfl w.heap.size 0 rfl cs hRd.out _ Tryd.underlying36 rfl hif ?_
    refine hK _ _ ?_
    clear hK
    refine wpAny_ready (rs := [3]) (by kernel_rfl) (by simp) ?_
    refine AllReady.cons rfl (fun K hK => ?_) AllReady.nil
    go_simp
    go_at_call 17
    refine (check_any cs m LA lc TA tc _ hMd.out).mono ?_
    rintro e w4 ⟨rfl, hB4⟩
    try go_simp
    refine hK _ _ ?_
    clear hK
    refine wpAny_ready (rs := [4]) (by kernel_rfl) (by simp) ?_
    refine AllReady.cons rfl (fun K hK => ?_) AllReady.nil
    go_simp
    go_at_call 18
    refine (none_fd (faultM m) hn.out _).mono ?_
    rintro e w5 ⟨rfl, hB5⟩
    try go_simp
    refine hK _ _ ?_
    clear hK
    have hBz := Lib.hid (later (later hBd.out hB4) hB5)
    rw [hf.out]
    refine wpAny_take (i := 5) (v := .bool true) rfl (by kernel_rfl) (by kernel_rfl) (by kernel_rfl) (fun _ _ _ h => h) (Or.inl ⟨by rfl, ?_⟩) ?_
    · intro w
      go_simp
    refine wpAny_take (i := 6) (v := .bool true) rfl (by kernel_rfl) (by kernel_rfl) (by kernel_rfl) (fun _ _ _ h => h) (Or.inl ⟨by rfl, ?_⟩) ?_
    · intro w
      go_simp
    refine wpAny_done (by kernel_rfl) ?_ _
    go_wp2_with fail
    go_ret
    exact ⟨rfl, hBz.out⟩
  | none =>
    obtain rfl : y = 0 := by
      rcases hor with h | h
      · exact absurd hf h
      · exact h
    rw [show nb 0 = 0 from rfl]
    refine (encode_good cs m LA lc TA tc w2 (hM.out.on hB12.out) hf).mono ?_
    rintro e w3 ⟨A, c, rfl, hO, hB3⟩
    have hB13 := Lib.hid (later hB12.out hB3)
    have hR3 := Lib.hid (hR2.out.on hB3)
    clear hO hor
    have hMd : Hid (MsgIn w3.drew cs m LA lc TA tc) := Lib.hid (hM.out.on hB13.out.drew)
    have hRd : Hid (RowAt w3.drew w.heap.size 0 cs) := Lib.hid hR3.out
    have hBd : Hid (Below w.heap.size w w3.drew) := Lib.hid hB13.out.drew
    have hn : Hid (∀ g, faultM m = some g → g.field ≠ []) := Lib.hid fun g hg => (faultM_facts hg).1
    replace hf := Lib.hid hf
    clear hX2 hB12 hR2 hB3 hB13 hR3
    go_upto_region 5 with fail
    refine wp_region_any (by kernel_rfl) ?_
    change wpAny _ _ _ _ _ _ _ w3.drew
    generalize w3.drew = wd at hMd hRd hBd ⊢
    refine wpAny_take (i := 0) (v := .nilIface) rfl (by kernel_rfl) (by kernel_rfl) (by kernel_rfl) (fun _ _ _ h => h) (Or.inl ⟨by rfl, ?_⟩) ?_
    · intro w
      go_simp
    refine wpAny_take (i := 1) (v := .bool true) rfl (by kernel_rfl) (by kernel_rfl) (by kernel_rfl) (fun _ _ _ h => h) (Or.inl ⟨by rfl, ?_⟩) ?_
    · intro w
      go_simp
    refine wpAny_ready (rs := [2]) (by kernel_rfl) (by simp) ?_
    refine AllReady.cons rfl (fun K hK => ?_) AllReady.nil
    refine step_loadR rfl _ _ rfl w.heap.size 0 rfl cs hRd.out _ Tryd.underlying36 rfl hif ?_
    refine hK _ _ ?_
    clear hK
    refine wpAny_ready (rs := [3]) (by kernel_rfl) (by simp) ?_
    refine AllReady.cons rfl (fun K hK => ?_) AllReady.nil
    go_simp
    go_at_call 17
    refine (check_any cs m LA lc TA tc _ hMd.out).mono ?_
    rintro e w4 ⟨rfl, hB4⟩
    try go_simp
    refine hK _ _ ?_
    clear hK
    refine wpAny_ready (rs := [4]) (by kernel_rfl) (by simp) ?_
    refine AllReady.cons rfl (fun K hK => ?_) AllReady.nil
    go_simp
    go_at_call 18
    refine (none_fd (faultM m) hn.out _).mono ?_
    rintro e w5 ⟨rfl, hB5⟩
    try go_simp
    refine hK _ _ ?_
    clear hK
    have hBz := Lib.hid (later (later hBd.out hB4) hB5)
    rw [hf.out]
    refine wpAny_take (i := 5) (v := .bool true) rfl (by kernel_rfl) (by kernel_rfl) (by kernel_rfl) (fun _ _ _ h => h) (Or.inl ⟨by rfl, ?_⟩) ?_
    · intro w
      go_simp
    refine wpAny_take (i := 6) (v := .bool true) rfl (by kernel_rfl) (by kernel_rfl) (by kernel_rfl) (fun _ _ _ h => h) (Or.inl ⟨by rfl, ?_⟩) ?_
    · intro w
      go_simp
    refine wpAny_done (by kernel_rfl) ?_ _
    go_wp2_with fail
    go_ret
    exact ⟨rfl, hBz.out⟩
end Go.Proofs.YtmnmmabhmedioaaDoor
