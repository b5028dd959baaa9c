/- Wire: the law WireApart: the walk where a message may not be. (Printed by gen_apart.py.) -/
import Derived.Test.YtmnmmabhmedioaaDoorWuK
import Derived.Test.YtmnmmabhmedioaaDoorWuJ
namespace Go.Proofs.YtmnmmabhmedioaaDoor
open Go.RowKit
set_option linter.unusedVariables false
set_option linter.unusedSimpArgs false
set_option maxRecDepth 100000

theorem step_loadRg {P : Program} {w : World} {ops : Array Oper} {op : Oper} {a : Act} {K : Act → World → Prop} {Q : Exit → Act → World → Prop} {E : Prop} (hw : Region.wanted op (yielded ops a.tmps) = true) (ty : TypeId) (x : Operand) (ho : op.op = .load ty x)
    (b o : Nat) (hx : a.eval x = .pointer (some ⟨b, o, none⟩)) (cs : Array Value) (hc : RowAt w b o cs) (d : TypeDesc)
    (hu : P.underlying ty = some d) (hd : d.isRow = true) (hi : (P.info? ty).map (·.size) = some cs.size)
    (h : K (a.put op.dst (.agg cs)) w) : if Region.wanted op (yielded ops a.tmps) = true then Oper.wp P op a w K Q else E := by
  rw [if_pos hw]
  have h' := wp_load_mid (P := P) (w := w) (a := a) (K := K) (Q := Q) (op := op) ty x ho b o hx cs.toList d (fun j v hv => hc j v (by simpa using hv)) hu hd (by simpa using hi)
  simp only [Array.toArray_toList] at h'
  exact h' h

set_option maxHeartbeats 16000000 in
theorem apart_bb (c1 c2 : Array Value) (m n : Msg) (LA : Option Addr) (lc : Nat) (TA : Option Addr) (tc : Nat) (LB : Option Addr) (ld : Nat) (TB : Option Addr) (td : Nat) (w : World) (hM : MsgIn w c1 m LA lc TA tc) (hN : MsgIn w c2 n LB ld TB td) (ht : Tab w.heap.size w) (cut : Int) (f1 : FD) (hf : faultM m = some f1) (f2 : FD) (hg : faultM n = some f2) : Calls Tryd.prog 4 #[.agg c1, .agg c2, .int .i64 cut] w fun e w' => e = .returned (.bool true) ∧ Below w.heap.size w w' := by
  have hn1 : Hid (∀ g, faultM m = some g → g.field ≠ []) := Lib.hid fun g hg => (faultM_facts hg).1
  have hn2 : Hid (∀ g, faultM n = some g → g.field ≠ []) := Lib.hid fun g hg => (faultM_facts hg).1
  replace hf := Lib.hid hf
  replace hg := Lib.hid hg
  have hX : ((w.alloc (.cells c1 36)).alloc (.cells c2 36)).heap[w.heap.size]? = some (.cells c1 36 (0, 0)) := by
    rw [heap_alloc?, if_neg (by simp)]; exact heap_alloc_new w _
  have hY : ((w.alloc (.cells c1 36)).alloc (.cells c2 36)).heap[w.heap.size + 1]? = some (.cells c2 36 (0, 0)) := by
    rw [heap_alloc?, if_pos (by simp)]
  have hB : Below w.heap.size w ((w.alloc (.cells c1 36)).alloc (.cells c2 36)) := later (boxed _ _) (boxed _ _)
  have hif1 : (Tryd.prog.info? 36).map (·.size) = some c1.size := by rw [hM.cells.size]; kernel_rfl
  have hif2 : (Tryd.prog.info? 36).map (·.size) = some c2.size := by rw [hN.cells.size]; kernel_rfl
  replace hM := Lib.hid hM
  replace hN := Lib.hid hN
  replace ht := Lib.hid ht
  have g1 := err_eq
  have g2 := err_ne
  have g3 := nil_eq
  have g4 := nil_ne
  go_enter Tryd.func4, Tryd.ntmps4
  go_upto_region 1 with fail
  generalize ((w.alloc (.cells c1 36)).alloc (.cells c2 36)) = w1 at hX hY hB ⊢
  replace hX := Lib.hid hX
  replace hY := Lib.hid hY
  replace hB := Lib.hid hB
  go_wp2_with fail
  refine (works_any w1 (ht.out.on hB.out)).mono ?_
  rintro e w2 ⟨rfl, hB2⟩
  have hX2 := Lib.hid (rowAt_all (heap_on hB2 hX.out))
  have hY2 := Lib.hid (rowAt_all (heap_on hB2 hY.out))
  have hB12 := Lib.hid (later hB.out hB2)
  clear hX hY hB hB2
  go_wp2_with (refine wpList_loadM _ rfl _ _ rfl w.heap.size 0 rfl c1 hX2.out _ Tryd.underlying36 rfl hif1 ?_)
  refine (encode_bad c1 m LA lc TA tc w2 (hM.out.on hB12.out) f1 hf.out).mono ?_
  rintro e w3 ⟨q1, rfl, hF1, hBn⟩
  clear hF1
  have hX3 := Lib.hid (hX2.out.on hBn)
  have hY3 := Lib.hid (hY2.out.on hBn)
  have hB13 := Lib.hid (later hB12.out hBn)
  clear hX2 hY2 hB12 hBn
  go_wp2_with (refine wpList_loadM _ rfl _ _ rfl (w.heap.size + 1) 0 rfl c2 hY3.out _ Tryd.underlying36 rfl hif2 ?_)
  refine (encode_bad c2 n LB ld TB td w3 (hN.out.on hB13.out) f2 hg.out).mono ?_
  rintro e w4 ⟨q2, rfl, hF2, hBn⟩
  clear hF2
  have hX4 := Lib.hid (hX3.out.on hBn)
  have hY4 := Lib.hid (hY3.out.on hBn)
  have hB14 := Lib.hid (later hB13.out hBn)
  have hMd : Hid (MsgIn w4.drew c1 m LA lc TA tc) := Lib.hid (hM.out.on hB14.out.drew)
  have hNd : Hid (MsgIn w4.drew c2 n LB ld TB td) := Lib.hid (hN.out.on hB14.out.drew)
  have hXd : Hid (RowAt w4.drew w.heap.size 0 c1) := Lib.hid hX4.out
  have hYd : Hid (RowAt w4.drew (w.heap.size + 1) 0 c2) := Lib.hid hY4.out
  have hBd : Hid (Below w.heap.size w w4.drew) := Lib.hid hB14.out.drew
  clear hX3 hY3 hB13 hBn hX4 hY4 hB14
  go_upto_region 6 with fail
  refine wp_region_any (by kernel_rfl) ?_
  change wpAny _ _ _ _ _ _ _ w4.drew
  generalize w4.drew = wd at hMd hNd hXd hYd hBd ⊢
  refine wpAny_take (i := 0) (v := (errOf q1)) rfl (by kernel_rfl) (by kernel_rfl) (by kernel_rfl) (fun _ _ _ h => h) (Or.inl ⟨by rfl, ?_⟩) ?_
  · intro w
    go_simp
  refine wpAny_take (i := 1) (v := .bool false) rfl (by kernel_rfl) (by kernel_rfl) (by kernel_rfl) (fun _ _ _ h => h) (Or.inl ⟨by rfl, ?_⟩) ?_
  · intro w
    go_simp
  refine wpAny_ready (rs := [2]) (by kernel_rfl) (by simp) ?_
  refine AllReady.cons rfl (fun K hK => ?_) AllReady.nil
  refine step_loadR rfl _ _ rfl w.heap.size 0 rfl c1 hXd.out _ Tryd.underlying36 rfl hif1 ?_
  refine hK _ _ ?_
  clear hK
  refine wpAny_ready (rs := [3]) (by kernel_rfl) (by simp) ?_
  refine AllReady.cons rfl (fun K hK => ?_) AllReady.nil
  go_simp
  go_at_call 17
  refine (check_any c1 m LA lc TA tc _ hMd.out).mono ?_
  rintro e w5 ⟨rfl, hBa1⟩
  try go_simp
  refine hK _ _ ?_
  clear hK
  refine wpAny_ready (rs := [4]) (by kernel_rfl) (by simp) ?_
  refine AllReady.cons rfl (fun K hK => ?_) AllReady.nil
  go_simp
  go_at_call 18
  refine (none_fd (faultM m) hn1.out _).mono ?_
  rintro e w6 ⟨rfl, hBb1⟩
  try go_simp
  refine hK _ _ ?_
  clear hK
  have hBe := (hBa1).trans (hBb1.mono hBa1.size)
  have hNe := Lib.hid (hNd.out.on hBe)
  have hYe := Lib.hid (hYd.out.on hBe)
  have hB16 := Lib.hid (later hBd.out hBe)
  clear hBa1 hBb1 hBe hMd hNd hXd hYd hBd
  rw [hf.out]
  refine wpAny_take (i := 5) (v := .bool true) rfl (by kernel_rfl) (by kernel_rfl) (by kernel_rfl) (fun _ _ _ h => h) (Or.inl ⟨by rfl, ?_⟩) ?_
  · intro w
    go_simp
  refine wpAny_take (i := 6) (v := .bool true) rfl (by kernel_rfl) (by kernel_rfl) (by kernel_rfl) (fun _ _ _ h => h) (Or.inl ⟨by rfl, ?_⟩) ?_
  · intro w
    go_simp
  refine wpAny_take (i := 7) (v := (errOf q2)) rfl (by kernel_rfl) (by kernel_rfl) (by kernel_rfl) (fun _ _ _ h => h) (Or.inl ⟨by rfl, ?_⟩) ?_
  · intro w
    go_simp
  refine wpAny_take (i := 8) (v := .bool false) rfl (by kernel_rfl) (by kernel_rfl) (by kernel_rfl) (fun _ _ _ h => h) (Or.inl ⟨by rfl, ?_⟩) ?_
  · intro w
    go_simp
  refine wpAny_ready (rs := [9]) (by kernel_rfl) (by simp) ?_
  refine AllReady.cons rfl (fun K hK => ?_) AllReady.nil
  refine step_loadRg (by simp [Region.wanted, yielded, Act.put]) _ _ rfl (w.heap.size + 1) 0 rfl c2 hYe.out _ Tryd.underlying36 rfl hif2 ?_
  refine hK _ _ ?_
  clear hK
  refine wpAny_ready (rs := [10]) (by kernel_rfl) (by simp) ?_
  refine AllReady.cons rfl (fun K hK => ?_) AllReady.nil
  go_simp
  go_at_call 17
  refine (check_any c2 n LB ld TB td _ hNe.out).mono ?_
  rintro e w7 ⟨rfl, hBa2⟩
  try go_simp
  refine hK _ _ ?_
  clear hK
  refine wpAny_ready (rs := [11]) (by kernel_rfl) (by simp) ?_
  refine AllReady.cons rfl (fun K hK => ?_) AllReady.nil
  go_simp
  go_at_call 18
  refine (none_fd (faultM n) hn2.out _).mono ?_
  rintro e w8 ⟨rfl, hBb2⟩
  try go_simp
  refine hK _ _ ?_
  clear hK
  have hBz := Lib.hid (later (later hB16.out hBa2) hBb2)
  rw [hg.out]
  refine wpAny_take (i := 12) (v := .bool true) rfl (by kernel_rfl) (by kernel_rfl) (by kernel_rfl) (fun _ _ _ h => h) (Or.inl ⟨by rfl, ?_⟩) ?_
  · intro w
    go_simp
  refine wpAny_take (i := 13) (v := .bool true) rfl (by kernel_rfl) (by kernel_rfl) (by kernel_rfl) (fun _ _ _ h => h) (Or.inl ⟨by rfl, ?_⟩) ?_
  · intro w
    go_simp
  refine wpAny_take (i := 14) (v := .bool true) rfl (by kernel_rfl) (by kernel_rfl) (by kernel_rfl) (fun _ _ _ h => h) (Or.inl ⟨by rfl, ?_⟩) ?_
  · intro w
    go_simp
  refine wpAny_done (by kernel_rfl) ?_ _
  go_wp2_with fail
  go_ret
  exact ⟨rfl, hBz.out⟩

set_option maxHeartbeats 16000000 in
theorem apart_bg (c1 c2 : Array Value) (m n : Msg) (LA : Option Addr) (lc : Nat) (TA : Option Addr) (tc : Nat) (LB : Option Addr) (ld : Nat) (TB : Option Addr) (td : Nat) (w : World) (hM : MsgIn w c1 m LA lc TA tc) (hN : MsgIn w c2 n LB ld TB td) (ht : Tab w.heap.size w) (cut : Int) (f1 : FD) (hf : faultM m = some f1) (hg : faultM n = none) : Calls Tryd.prog 4 #[.agg c1, .agg c2, .int .i64 cut] w fun e w' => e = .returned (.bool true) ∧ Below w.heap.size w w' := by
  have hn1 : Hid (∀ g, faultM m = some g → g.field ≠ []) := Lib.hid fun g hg => (faultM_facts hg).1
  have hn2 : Hid (∀ g, faultM n = some g → g.field ≠ []) := Lib.hid fun g hg => (faultM_facts hg).1
  replace hf := Lib.hid hf
  replace hg := Lib.hid hg
  have hX : ((w.alloc (.cells c1 36)).alloc (.cells c2 36)).heap[w.heap.size]? = some (.cells c1 36 (0, 0)) := by
    rw [heap_alloc?, if_neg (by simp)]; exact heap_alloc_new w _
  have hY : ((w.alloc (.cells c1 36)).alloc (.cells c2 36)).heap[w.heap.size + 1]? = some (.cells c2 36 (0, 0)) := by
    rw [heap_alloc?, if_pos (by simp)]
  have hB : Below w.heap.size w ((w.alloc (.cells c1 36)).alloc (.cells c2 36)) := later (boxed _ _) (boxed _ _)
  have hif1 : (Tryd.prog.info? 36).map (·.size) = some c1.size := by rw [hM.cells.size]; kernel_rfl
  have hif2 : (Tryd.prog.info? 36).map (·.size) = some c2.size := by rw [hN.cells.size]; kernel_rfl
  replace hM := Lib.hid hM
  replace hN := Lib.hid hN
  replace ht := Lib.hid ht
  have g1 := err_eq
  have g2 := err_ne
  have g3 := nil_eq
  have g4 := nil_ne
  go_enter Tryd.func4, Tryd.ntmps4
  go_upto_region 1 with fail
  generalize ((w.alloc (.cells c1 36)).alloc (.cells c2 36)) = w1 at hX hY hB ⊢
  replace hX := Lib.hid hX
  replace hY := Lib.hid hY
  replace hB := Lib.hid hB
  go_wp2_with fail
  refine (works_any w1 (ht.out.on hB.out)).mono ?_
  rintro e w2 ⟨rfl, hB2⟩
  have hX2 := Lib.hid (rowAt_all (heap_on hB2 hX.out))
  have hY2 := Lib.hid (rowAt_all (heap_on hB2 hY.out))
  have hB12 := Lib.hid (later hB.out hB2)
  clear hX hY hB hB2
  go_wp2_with (refine wpList_loadM _ rfl _ _ rfl w.heap.size 0 rfl c1 hX2.out _ Tryd.underlying36 rfl hif1 ?_)
  refine (encode_bad c1 m LA lc TA tc w2 (hM.out.on hB12.out) f1 hf.out).mono ?_
  rintro e w3 ⟨q1, rfl, hF1, hBn⟩
  clear hF1
  have hX3 := Lib.hid (hX2.out.on hBn)
  have hY3 := Lib.hid (hY2.out.on hBn)
  have hB13 := Lib.hid (later hB12.out hBn)
  clear hX2 hY2 hB12 hBn
  go_wp2_with (refine wpList_loadM _ rfl _ _ rfl (w.heap.size + 1) 0 rfl c2 hY3.out _ Tryd.underlying36 rfl hif2 ?_)
  refine (encode_good c2 n LB ld TB td w3 (hN.out.on hB13.out) hg.out).mono ?_
  rintro e w4 ⟨A2, k2, rfl, hO2, hBn⟩
  have hX4 := Lib.hid (hX3.out.on hBn)
  have hY4 := Lib.hid (hY3.out.on hBn)
  have hB14 := Lib.hid (later hB13.out hBn)
  have hMd : Hid (MsgIn w4.drew c1 m LA lc TA tc) := Lib.hid (hM.out.on hB14.out.drew)
  have hNd : Hid (MsgIn w4.drew c2 n LB ld TB td) := Lib.hid (hN.out.on hB14.out.drew)
  have hXd : Hid (RowAt w4.drew w.heap.size 0 c1) := Lib.hid hX4.out
  have hYd : Hid (RowAt w4.drew (w.heap.size + 1) 0 c2) := Lib.hid hY4.out
  have hBd : Hid (Below w.heap.size w w4.drew) := Lib.hid hB14.out.drew
  clear hX3 hY3 hB13 hBn hX4 hY4 hB14
  go_upto_region 6 with fail
  refine wp_region_any (by kernel_rfl) ?_
  change wpAny _ _ _ _ _ _ _ w4.drew
  generalize w4.drew = wd at hMd hNd hXd hYd hBd ⊢
  refine wpAny_take (i := 0) (v := (errOf q1)) rfl (by kernel_rfl) (by kernel_rfl) (by kernel_rfl) (fun _ _ _ h => h) (Or.inl ⟨by rfl, ?_⟩) ?_
  · intro w
    go_simp
  refine wpAny_take (i := 1) (v := .bool false) rfl (by kernel_rfl) (by kernel_rfl) (by kernel_rfl) (fun _ _ _ h => h) (Or.inl ⟨by rfl, ?_⟩) ?_
  · intro w
    go_simp
  refine wpAny_ready (rs := [2]) (by kernel_rfl) (by simp) ?_
  refine AllReady.cons rfl (fun K hK => ?_) AllReady.nil
  refine step_loadR rfl _ _ rfl w.heap.size 0 rfl c1 hXd.out _ Tryd.underlying36 rfl hif1 ?_
  refine hK _ _ ?_
  clear hK
  refine wpAny_ready (rs := [3]) (by kernel_rfl) (by simp) ?_
  refine AllReady.cons rfl (fun K hK => ?_) AllReady.nil
  go_simp
  go_at_call 17
  refine (check_any c1 m LA lc TA tc _ hMd.out).mono ?_
  rintro e w5 ⟨rfl, hBa1⟩
  try go_simp
  refine hK _ _ ?_
  clear hK
  refine wpAny_ready (rs := [4]) (by kernel_rfl) (by simp) ?_
  refine AllReady.cons rfl (fun K hK => ?_) AllReady.nil
  go_simp
  go_at_call 18
  refine (none_fd (faultM m) hn1.out _).mono ?_
  rintro e w6 ⟨rfl, hBb1⟩
  try go_simp
  refine hK _ _ ?_
  clear hK
  have hBe := (hBa1).trans (hBb1.mono hBa1.size)
  have hNe := Lib.hid (hNd.out.on hBe)
  have hYe := Lib.hid (hYd.out.on hBe)
  have hB16 := Lib.hid (later hBd.out hBe)
  clear hBa1 hBb1 hBe hMd hNd hXd hYd hBd
  rw [hf.out]
  refine wpAny_take (i := 5) (v := .bool true) rfl (by kernel_rfl) (by kernel_rfl) (by kernel_rfl) (fun _ _ _ h => h) (Or.inl ⟨by rfl, ?_⟩) ?_
  · intro w
    go_simp
  refine wpAny_take (i := 6) (v := .bool true) rfl (by kernel_rfl) (by kernel_rfl) (by kernel_rfl) (fun _ _ _ h => h) (Or.inl ⟨by rfl, ?_⟩) ?_
  · intro w
    go_simp
  refine wpAny_take (i := 7) (v := .nilIface) rfl (by kernel_rfl) (by kernel_rfl) (by kernel_rfl) (fun _ _ _ h => h) (Or.inl ⟨by rfl, ?_⟩) ?_
  · intro w
    go_simp
  refine wpAny_take (i := 8) (v := .bool true) rfl (by kernel_rfl) (by kernel_rfl) (by kernel_rfl) (fun _ _ _ h => h) (Or.inl ⟨by rfl, ?_⟩) ?_
  · intro w
    go_simp
  refine wpAny_ready (rs := [9]) (by kernel_rfl) (by simp) ?_
  refine AllReady.cons rfl (fun K hK => ?_) AllReady.nil
  refine step_loadRg (by simp [Region.wanted, yielded, Act.put]) _ _ rfl (w.heap.size + 1) 0 rfl c2 hYe.out _ Tryd.underlying36 rfl hif2 ?_
  refine hK _ _ ?_
  clear hK
  refine wpAny_ready (rs := [10]) (by kernel_rfl) (by simp) ?_
  refine AllReady.cons rfl (fun K hK => ?_) AllReady.nil
  go_simp
  go_at_call 17
  refine (check_any c2 n LB ld TB td _ hNe.out).mono ?_
  rintro e w7 ⟨rfl, hBa2⟩
  try go_simp
  refine hK _ _ ?_
  clear hK
  refine wpAny_ready (rs := [11]) (by kernel_rfl) (by simp) ?_
  refine AllReady.cons rfl (fun K hK => ?_) AllReady.nil
  go_simp
  go_at_call 18
  refine (none_fd (faultM n) hn2.out _).mono ?_
  rintro e w8 ⟨rfl, hBb2⟩
  try go_simp
  refine hK _ _ ?_
  clear hK
  have hBz := Lib.hid (later (later hB16.out hBa2) hBb2)
  rw [hg.out]
  refine wpAny_take (i := 12) (v := .bool true) rfl (by kernel_rfl) (by kernel_rfl) (by kernel_rfl) (fun _ _ _ h => h) (Or.inl ⟨by rfl, ?_⟩) ?_
  · intro w
    go_simp
  refine wpAny_take (i := 13) (v := .bool true) rfl (by kernel_rfl) (by kernel_rfl) (by kernel_rfl) (fun _ _ _ h => h) (Or.inl ⟨by rfl, ?_⟩) ?_
  · intro w
    go_simp
  refine wpAny_take (i := 14) (v := .bool true) rfl (by kernel_rfl) (by kernel_rfl) (by kernel_rfl) (fun _ _ _ h => h) (Or.inl ⟨by rfl, ?_⟩) ?_
  · intro w
    go_simp
  refine wpAny_done (by kernel_rfl) ?_ _
  go_wp2_with fail
  go_ret
  exact ⟨rfl, hBz.out⟩

set_option maxHeartbeats 16000000 in
theorem apart_gb (c1 c2 : Array Value) (m n : Msg) (LA : Option Addr) (lc : Nat) (TA : Option Addr) (tc : Nat) (LB : Option Addr) (ld : Nat) (TB : Option Addr) (td : Nat) (w : World) (hM : MsgIn w c1 m LA lc TA tc) (hN : MsgIn w c2 n LB ld TB td) (ht : Tab w.heap.size w) (cut : Int) (hf : faultM m = none) (f2 : FD) (hg : faultM n = some f2) : Calls Tryd.prog 4 #[.agg c1, .agg c2, .int .i64 cut] w fun e w' => e = .returned (.bool true) ∧ Below w.heap.size w w' := by
  have hn1 : Hid (∀ g, faultM m = some g → g.field ≠ []) := Lib.hid fun g hg => (faultM_facts hg).1
  have hn2 : Hid (∀ g, faultM n = some g → g.field ≠ []) := Lib.hid fun g hg => (faultM_facts hg).1
  replace hf := Lib.hid hf
  replace hg := Lib.hid hg
  have hX : ((w.alloc (.cells c1 36)).alloc (.cells c2 36)).heap[w.heap.size]? = some (.cells c1 36 (0, 0)) := by
    rw [heap_alloc?, if_neg (by simp)]; exact heap_alloc_new w _
  have hY : ((w.alloc (.cells c1 36)).alloc (.cells c2 36)).heap[w.heap.size + 1]? = some (.cells c2 36 (0, 0)) := by
    rw [heap_alloc?, if_pos (by simp)]
  have hB : Below w.heap.size w ((w.alloc (.cells c1 36)).alloc (.cells c2 36)) := later (boxed _ _) (boxed _ _)
  have hif1 : (Tryd.prog.info? 36).map (·.size) = some c1.size := by rw [hM.cells.size]; kernel_rfl
  have hif2 : (Tryd.prog.info? 36).map (·.size) = some c2.size := by rw [hN.cells.size]; kernel_rfl
  replace hM := Lib.hid hM
  replace hN := Lib.hid hN
  replace ht := Lib.hid ht
  have g1 := err_eq
  have g2 := err_ne
  have g3 := nil_eq
  have g4 := nil_ne
  go_enter Tryd.func4, Tryd.ntmps4
  go_upto_region 1 with fail
  generalize ((w.alloc (.cells c1 36)).alloc (.cells c2 36)) = w1 at hX hY hB ⊢
  replace hX := Lib.hid hX
  replace hY := Lib.hid hY
  replace hB := Lib.hid hB
  go_wp2_with fail
  refine (works_any w1 (ht.out.on hB.out)).mono ?_
  rintro e w2 ⟨rfl, hB2⟩
  have hX2 := Lib.hid (rowAt_all (heap_on hB2 hX.out))
  have hY2 := Lib.hid (rowAt_all (heap_on hB2 hY.out))
  have hB12 := Lib.hid (later hB.out hB2)
  clear hX hY hB hB2
  go_wp2_with (refine wpList_loadM _ rfl _ _ rfl w.heap.size 0 rfl c1 hX2.out _ Tryd.underlying36 rfl hif1 ?_)
  refine (encode_good c1 m LA lc TA tc w2 (hM.out.on hB12.out) hf.out).mono ?_
  rintro e w3 ⟨A1, k1, rfl, hO1, hBn⟩
  have hX3 := Lib.hid (hX2.out.on hBn)
  have hY3 := Lib.hid (hY2.out.on hBn)
  have hB13 := Lib.hid (later hB12.out hBn)
  clear hX2 hY2 hB12 hBn
  go_wp2_with (refine wpList_loadM _ rfl _ _ rfl (w.heap.size + 1) 0 rfl c2 hY3.out _ Tryd.underlying36 rfl hif2 ?_)
  refine (encode_bad c2 n LB ld TB td w3 (hN.out.on hB13.out) f2 hg.out).mono ?_
  rintro e w4 ⟨q2, rfl, hF2, hBn⟩
  clear hF2
  have hX4 := Lib.hid (hX3.out.on hBn)
  have hY4 := Lib.hid (hY3.out.on hBn)
  have hB14 := Lib.hid (later hB13.out hBn)
  have hMd : Hid (MsgIn w4.drew c1 m LA lc TA tc) := Lib.hid (hM.out.on hB14.out.drew)
  have hNd : Hid (MsgIn w4.drew c2 n LB ld TB td) := Lib.hid (hN.out.on hB14.out.drew)
  have hXd : Hid (RowAt w4.drew w.heap.size 0 c1) := Lib.hid hX4.out
  have hYd : Hid (RowAt w4.drew (w.heap.size + 1) 0 c2) := Lib.hid hY4.out
  have hBd : Hid (Below w.heap.size w w4.drew) := Lib.hid hB14.out.drew
  clear hX3 hY3 hB13 hBn hX4 hY4 hB14
  go_upto_region 6 with fail
  refine wp_region_any (by kernel_rfl) ?_
  change wpAny _ _ _ _ _ _ _ w4.drew
  generalize w4.drew = wd at hMd hNd hXd hYd hBd ⊢
  refine wpAny_take (i := 0) (v := .nilIface) rfl (by kernel_rfl) (by kernel_rfl) (by kernel_rfl) (fun _ _ _ h => h) (Or.inl ⟨by rfl, ?_⟩) ?_
  · intro w
    go_simp
  refine wpAny_take (i := 1) (v := .bool true) rfl (by kernel_rfl) (by kernel_rfl) (by kernel_rfl) (fun _ _ _ h => h) (Or.inl ⟨by rfl, ?_⟩) ?_
  · intro w
    go_simp
  refine wpAny_ready (rs := [2]) (by kernel_rfl) (by simp) ?_
  refine AllReady.cons rfl (fun K hK => ?_) AllReady.nil
  refine step_loadR rfl _ _ rfl w.heap.size 0 rfl c1 hXd.out _ Tryd.underlying36 rfl hif1 ?_
  refine hK _ _ ?_
  clear hK
  refine wpAny_ready (rs := [3]) (by kernel_rfl) (by simp) ?_
  refine AllReady.cons rfl (fun K hK => ?_) AllReady.nil
  go_simp
  go_at_call 17
  refine (check_any c1 m LA lc TA tc _ hMd.out).mono ?_
  rintro e w5 ⟨rfl, hBa1⟩
  try go_simp
  refine hK _ _ ?_
  clear hK
  refine wpAny_ready (rs := [4]) (by kernel_rfl) (by simp) ?_
  refine AllReady.cons rfl (fun K hK => ?_) AllReady.nil
  go_simp
  go_at_call 18
  refine (none_fd (faultM m) hn1.out _).mono ?_
  rintro e w6 ⟨rfl, hBb1⟩
  try go_simp
  refine hK _ _ ?_
  clear hK
  have hBe := (hBa1).trans (hBb1.mono hBa1.size)
  have hNe := Lib.hid (hNd.out.on hBe)
  have hYe := Lib.hid (hYd.out.on hBe)
  have hB16 := Lib.hid (later hBd.out hBe)
  clear hBa1 hBb1 hBe hMd hNd hXd hYd hBd
  rw [hf.out]
  refine wpAny_take (i := 5) (v := .bool true) rfl (by kernel_rfl) (by kernel_rfl) (by kernel_rfl) (fun _ _ _ h => h) (Or.inl ⟨by rfl, ?_⟩) ?_
  · intro w
    go_simp
  refine wpAny_take (i := 6) (v := .bool true) rfl (by kernel_rfl) (by kernel_rfl) (by kernel_rfl) (fun _ _ _ h => h) (Or.inl ⟨by rfl, ?_⟩) ?_
  · intro w
    go_simp
  refine wpAny_take (i := 7) (v := (errOf q2)) rfl (by kernel_rfl) (by kernel_rfl) (by kernel_rfl) (fun _ _ _ h => h) (Or.inl ⟨by rfl, ?_⟩) ?_
  · intro w
    go_simp
  refine wpAny_take (i := 8) (v := .bool false) rfl (by kernel_rfl) (by kernel_rfl) (by kernel_rfl) (fun _ _ _ h => h) (Or.inl ⟨by rfl, ?_⟩) ?_
  · intro w
    go_simp
  refine wpAny_ready (rs := [9]) (by kernel_rfl) (by simp) ?_
  refine AllReady.cons rfl (fun K hK => ?_) AllReady.nil
  refine step_loadRg (by simp [Region.wanted, yielded, Act.put]) _ _ rfl (w.heap.size + 1) 0 rfl c2 hYe.out _ Tryd.underlying36 rfl hif2 ?_
  refine hK _ _ ?_
  clear hK
  refine wpAny_ready (rs := [10]) (by kernel_rfl) (by simp) ?_
  refine AllReady.cons rfl (fun K hK => ?_) AllReady.nil
  go_simp
  go_at_call 17
  refine (check_any c2 n LB ld TB td _ hNe.out).mono ?_
  rintro e w7 ⟨rfl, hBa2⟩
  try go_simp
  refine hK _ _ ?_
  clear hK
  refine wpAny_ready (rs := [11]) (by kernel_rfl) (by simp) ?_
  refine AllReady.cons rfl (fun K hK => ?_) AllReady.nil
  go_simp
  go_at_call 18
  refine (none_fd (faultM n) hn2.out _).mono ?_
  rintro e w8 ⟨rfl, hBb2⟩
  try go_simp
  refine hK _ _ ?_
  clear hK
  have hBz := Lib.hid (later (later hB16.out hBa2) hBb2)
  rw [hg.out]
  refine wpAny_take (i := 12) (v := .bool true) rfl (by kernel_rfl) (by kernel_rfl) (by kernel_rfl) (fun _ _ _ h => h) (Or.inl ⟨by rfl, ?_⟩) ?_
  · intro w
    go_simp
  refine wpAny_take (i := 13) (v := .bool true) rfl (by kernel_rfl) (by kernel_rfl) (by kernel_rfl) (fun _ _ _ h => h) (Or.inl ⟨by rfl, ?_⟩) ?_
  · intro w
    go_simp
  refine wpAny_take (i := 14) (v := .bool true) rfl (by kernel_rfl) (by kernel_rfl) (by kernel_rfl) (fun _ _ _ h => h) (Or.inl ⟨by rfl, ?_⟩) ?_
  · intro w
    go_simp
  refine wpAny_done (by kernel_rfl) ?_ _
  go_wp2_with fail
  go_ret
  exact ⟨rfl, hBz.out⟩

end Go.Proofs.YtmnmmabhmedioaaDoor
