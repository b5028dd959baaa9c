/- Wire: are two lists of commitments the same? (any two) -/
import Derived.Test.YtmnmmabhmedioaaDoorM10
import Derived.StillTactics
namespace Go.Proofs.YtmnmmabhmedioaaDoor
open Go.RowKit
set_option linter.unusedVariables false
set_option linter.unusedSimpArgs false
set_option maxRecDepth 100000

deriving instance DecidableEq for Pair

theorem eqFields_stepB {P : Program} (d : Nat) (xs ys : Array Value) (f : Field) (fs : List Field) (w : World) (a b : Value) (r : Bool) (hn : f.name ≠ "_") (ha : (part f.type xs f.offset).run P w = .ok a w) (hb : (part f.type ys f.offset).run P w = .ok b w) (he : (Op.equalIn d f.type a b).run P w = .ok r w) :
    (Op.eqFields d xs ys (f :: fs)).run P w = if r then (Op.eqFields d xs ys fs).run P w else .ok false w := by
  rw [Op.eqFields, if_pos hn]
  simp only [Sem.run_bind, ha, hb, he, Result.andThen_ok]
  cases r <;> simp
theorem eqArrG (d : Nat) (t : TypeId) (n : Nat) (ht : Tryd.prog.underlying t = some (.array n 5)) (l l' : List UInt8) (hl : l.length = n) (hl' : l'.length = n) (w : World) : (Op.equalIn (d + 2) t (.agg (arrB l)) (.agg (arrB l'))).run Tryd.prog w = .ok (l == l') w :=
  run_equalIn_bytes (P := Tryd.prog) w d t 5 n ht Tryd.underlying5 size5 l l' hl hl'
theorem pairA_x1 {p : Pair} (h : PairOk p) : (pairA p).extract 1 33 = arrB p.hid := by
  apply Array.toList_inj.1
  simp [pairA, arrB, h.1]
  exact List.take_of_length_le (by simp [h.1])
theorem pairA_x2 {p : Pair} (h : PairOk p) : (pairA p).extract 33 65 = arrB p.bnd := by
  apply Array.toList_inj.1
  simp [pairA, arrB, h.1, h.2]
  exact List.take_of_length_le (by simp [h.2])
theorem part0 (p : Pair) (w : World) : (part 3 (pairA p) 0).run Tryd.prog w = .ok (.int .i64 p.id) w := by
  simp [part, isAgg, run_underlying Tryd.underlying3, pairA_get0 p]
theorem part1 {p : Pair} (h : PairOk p) (w : World) : (part 27 (pairA p) 1).run Tryd.prog w = .ok (.agg (arrB p.hid)) w := by
  obtain ⟨j, hj, hjs⟩ := Option.map_eq_some_iff.1 (show (Tryd.prog.info? 27).map (·.size) = some 32 by kernel_rfl)
  simp [part, isAgg, run_underlying Tryd.underlying27, sizeOf, typeInfo, hj, hjs, pairA_x1 h]
theorem part2 {p : Pair} (h : PairOk p) (w : World) : (part 27 (pairA p) 33).run Tryd.prog w = .ok (.agg (arrB p.bnd)) w := by
  obtain ⟨j, hj, hjs⟩ := Option.map_eq_some_iff.1 (show (Tryd.prog.info? 27).map (·.size) = some 32 by kernel_rfl)
  simp [part, isAgg, run_underlying Tryd.underlying27, sizeOf, typeInfo, hj, hjs, pairA_x2 h]
theorem eqPairG (d : Nat) (p q : Pair) (hp : PairOk p) (hq : PairOk q) (w : World) : (Op.equalIn (d + 3) 29 (.agg (pairA p)) (.agg (pairA q))).run Tryd.prog w = .ok (decide (p = q)) w := by
  have hf := fields29
  rw [run_equalIn_struct w (d + 2) 29 _ _ (by kernel_rfl) (by kernel_rfl)]
  generalize (Tryd.prog.fieldsOf 29).toList = fs at hf
  obtain ⟨f0, r0, rfl⟩ : ∃ f0 r0, fs = f0 :: r0 := by cases fs with | nil => simp at hf | cons a l => exact ⟨a, l, rfl⟩
  obtain ⟨f1, r1, rfl⟩ : ∃ f1 r1, r0 = f1 :: r1 := by cases r0 with | nil => simp at hf | cons a l => exact ⟨a, l, rfl⟩
  obtain ⟨f2, r2, rfl⟩ : ∃ f2 r2, r1 = f2 :: r2 := by cases r1 with | nil => simp at hf | cons a l => exact ⟨a, l, rfl⟩
  obtain rfl : r2 = [] := by cases r2 with | nil => rfl | cons a l => simp at hf
  simp only [List.map_cons, List.map_nil, List.cons.injEq, Prod.mk.injEq, and_true] at hf
  obtain ⟨⟨n0, t0, o0⟩, ⟨n1, t1, o1⟩, ⟨n2, t2, o2⟩⟩ := hf
  have e0 := run_equalIn_int (P := Tryd.prog) w (d + 1) 3 .i64 .i64 p.id q.id Tryd.underlying3
  have e1' := eqArrG d 27 32 Tryd.underlying27 p.hid q.hid hp.1 hq.1 w
  have e2' := eqArrG d 27 32 Tryd.underlying27 p.bnd q.bnd hp.2 hq.2 w
  have s0 : ("ID" : String) ≠ "_" := by decide
  have s1 : ("Hiding" : String) ≠ "_" := by decide
  have s2 : ("Binding" : String) ≠ "_" := by decide
  rw [eqFields_stepB (d + 2) (pairA p) (pairA q) f0 [f1, f2] w _ _ _ (by rw [n0]; exact s0) (by rw [t0, o0]; exact part0 p w) (by rw [t0, o0]; exact part0 q w) (by rw [t0]; exact e0),
    eqFields_stepB (d + 2) (pairA p) (pairA q) f1 [f2] w _ _ _ (by rw [n1]; exact s1) (by rw [t1, o1]; exact part1 hp w) (by rw [t1, o1]; exact part1 hq w) (by rw [t1]; exact e1'),
    eqFields_stepB (d + 2) (pairA p) (pairA q) f2 [] w _ _ _ (by rw [n2]; exact s2) (by rw [t2, o2]; exact part2 hp w) (by rw [t2, o2]; exact part2 hq w) (by rw [t2]; exact e2')]
  obtain ⟨pi, ph, pb⟩ := p
  obtain ⟨qi, qh, qb⟩ := q
  simp only [Pair.mk.injEq]
  by_cases h0 : pi = qi
  · by_cases h1 : ph = qh
    · by_cases h2 : pb = qb
      · simp [h0, h1, h2]; rfl
      · simp [h0, h1, h2]
    · simp [h0, h1]
  · simp [h0]
theorem neqP (p q : Pair) (hp : PairOk p) (hq : PairOk q) (w : World) : (binOp .neq 29 (.agg (pairA p)) (.agg (pairA q))).run Tryd.prog w = .ok (.bool (!(decide (p = q)))) w := by
  rw [run_neq_struct, show (10000 : Nat) = 9997 + 3 from rfl, eqPairG 9997 p q hp hq w]
  rfl
theorem eqlPG (p q : Pair) (hp : PairOk p) (hq : PairOk q) (w : World) : (binOp .eql 29 (.agg (pairA p)) (.agg (pairA q))).run Tryd.prog w = .ok (.bool (decide (p = q))) w := by
  rw [run_eql_struct, show (10000 : Nat) = 9997 + 3 from rfl, eqPairG 9997 p q hp hq w]
  rfl
theorem still_loadR {P : Program} {w : World} {ops : Array Oper} {op : Oper} {a : Act} {K : Act → Prop} (hgd : op.guard = none) (ty : TypeId) (x : Operand) (ho : op.op = .load ty x)
    (b o : Nat) (hx : a.eval x = .pointer (some ⟨b, o, none⟩)) (cs : Array Value) (hc : RowAt w b o cs) (d : TypeDesc)
    (hu : P.underlying ty = some d) (hd : d.isRow = true) (hi : (P.info? ty).map (·.size) = some cs.size)
    (h : K (a.put op.dst (.agg cs))) : if Region.wanted op (yielded ops a.tmps) then op.still P a w K else K (a.put op.dst undef) := by
  rw [if_pos (by simp [Region.wanted, hgd])]
  unfold Oper.still execOp
  have hr := run_loadVar_mid w b o ty cs.toList d (P := P) (fun j v hv => hc j v (by simpa using hv)) hu hd (by simpa using hi)
  simp only [ho, hx, Instr.loadAt, Instr.sureAddr, Sem.run_bind, Sem.run_pure, Result.andThen_ok, hr, Array.toArray_toList]
  rw [Oper.stillUpon_value]
  exact h
end Go.Proofs.YtmnmmabhmedioaaDoor
/- Wire: SameCommitments of any two lists. -/
namespace Go.Proofs.YtmnmmabhmedioaaDoor
open Go.RowKit
set_option linter.unusedVariables false
set_option linter.unusedSimpArgs false
set_option maxRecDepth 100000

set_option maxHeartbeats 4000000 in
theorem sameCommitments_any (A B : Option Addr) (c d : Nat) (xs ys : List Pair) (w : World) (hx : PairsIn w A xs) (hy : PairsIn w B ys) (px : ∀ i, PairOk (xs.getD i Pair.zero)) (py : ∀ i, PairOk (ys.getD i Pair.zero)) (hl : xs.length ≤ 2199023255552) (hl2 : ys.length ≤ 2199023255552) :
    Calls Tryd.prog 48 #[.slice A xs.length c, .slice B ys.length d] w fun e w' => e = .returned (.bool (decide (xs = ys))) ∧ ∃ m, w' = w.drewN m := by
  replace hx := Lib.hid hx
  replace hy := Lib.hid hy
  replace px := Lib.hid px
  replace py := Lib.hid py
  by_cases hn : xs.length = ys.length
  · have hn2 : ys.length = xs.length := hn.symm
    clear hn
    rw [hn2]
    replace hn2 := Lib.hid hn2
    clear hl2
    go_enter Tryd.func48, Tryd.ntmps48
    go_wp2
    go_loopw [5] (fun i wr => ∃ k : Nat, k ≤ xs.length ∧ i = .int .i64 k ∧ Hid (xs.take k = ys.take k) ∧ ∃ m, Hid (wr = w.drewN m)) (fun i _ => xs.length - (intOf i).toNat)
    case atStart => exact ⟨0, Nat.zero_le _, rfl, Lib.hid (by simp), 0, Lib.hid rfl⟩
    case round =>
      obtain ⟨k, hk, rfl, he, m, hwr⟩ := hrel
      rcases Nat.lt_or_ge k xs.length with hlt | hge
      · have hlt2 : k < ys.length := by rw [hn2.out]; exact hlt
        obtain ⟨b1, o1, rfl, H1⟩ := hx.out (by omega)
        obtain ⟨b2, o2, rfl, H2⟩ := hy.out (by omega)
        have d1 : Hid (RowAt wr.drew b1 (o1 + k * 65) (pairA (xs.getD k Pair.zero))) := Lib.hid (by rw [hwr.out]; exact H1 k hlt)
        have d2 : Hid (RowAt wr.drew b2 (o2 + k * 65) (pairA (ys.getD k Pair.zero))) := Lib.hid (by rw [hwr.out]; exact H2 k hlt2)
        have hBd : Hid (wr.drew = w.drewN (m + 1)) := Lib.hid (by rw [hwr.out]; rfl)
        clear H1 H2
        have k0 : (0 : Int) ≤ (k : Int) := by omega
        have k1 : (k : Int) < (xs.length : Int) := by omega
        have i1 : (Tryd.prog.info? 29).map (·.size) = some (pairA (xs.getD k Pair.zero)).size := by rw [pairA_size (px.out k)]; kernel_rfl
        have i2 : (Tryd.prog.info? 29).map (·.size) = some (pairA (ys.getD k Pair.zero)).size := by rw [pairA_size (py.out k)]; kernel_rfl
        have hq := neqP (xs.getD k Pair.zero) (ys.getD k Pair.zero) (px.out k) (py.out k)
        by_cases e : xs.getD k Pair.zero = ys.getD k Pair.zero
        · have hs := Lib.hid (take_succ_eq he.out hlt hlt2 e)
          rw [decide_eq_true e] at hq
          replace e := Lib.hid e
          clear hlt2
          generalize xs.getD k Pair.zero = x at d1 i1 hq
          generalize ys.getD k Pair.zero = y at d2 i2 hq
          have hq' : ∀ w, (binOp .neq 29 (.agg (pairA x)) (.agg (pairA y))).run Tryd.prog w = .ok (.bool false) w := hq
          clear hq
          go_wp2_with fail
          refine wp_region_still_lit (by kernel_rfl) (by kernel_rfl) ?_
          still_step
          still_step
          still_step
          refine wpStill_step (fun K hK => ?_)
          refine still_loadR rfl _ _ rfl b1 (o1 + k * 65) rfl (pairA x) d1.out _ Tryd.underlying29 rfl i1 ?_
          refine hK _ ?_
          clear hK K
          still_step
          still_step
          still_step
          refine wpStill_step (fun K hK => ?_)
          refine still_loadR rfl _ _ rfl b2 (o2 + k * 65) rfl (pairA y) d2.out _ Tryd.underlying29 rfl i2 ?_
          refine hK _ ?_
          clear hK K
          still_step
          refine wpStill_nil ?_
          change Exit.then _ _ _ _ wr.drew
          generalize wr.drew = wd at hBd ⊢
          go_wp2_with fail
          exact ⟨⟨k + 1, by omega, by go_num, hs, m + 1, hBd⟩, by simp [intOf]; omega⟩
        · have hxy : Hid (xs ≠ ys) := Lib.hid fun h => e (by rw [h])
          rw [decide_eq_false e] at hq
          replace e := Lib.hid e
          clear hlt2
          generalize xs.getD k Pair.zero = x at d1 i1 hq
          generalize ys.getD k Pair.zero = y at d2 i2 hq
          have hq' : ∀ w, (binOp .neq 29 (.agg (pairA x)) (.agg (pairA y))).run Tryd.prog w = .ok (.bool true) w := hq
          clear hq
          go_wp2_with fail
          refine wp_region_still_lit (by kernel_rfl) (by kernel_rfl) ?_
          still_step
          still_step
          still_step
          refine wpStill_step (fun K hK => ?_)
          refine still_loadR rfl _ _ rfl b1 (o1 + k * 65) rfl (pairA x) d1.out _ Tryd.underlying29 rfl i1 ?_
          refine hK _ ?_
          clear hK K
          still_step
          still_step
          still_step
          refine wpStill_step (fun K hK => ?_)
          refine still_loadR rfl _ _ rfl b2 (o2 + k * 65) rfl (pairA y) d2.out _ Tryd.underlying29 rfl i2 ?_
          refine hK _ ?_
          clear hK K
          still_step
          refine wpStill_nil ?_
          change Exit.then _ _ _ _ wr.drew
          generalize wr.drew = wd at hBd ⊢
          go_wp2_with fail
          go_ret
          exact ⟨congrArg (fun b => Ending.returned (Value.bool b)) (decide_eq_false hxy.out).symm, m + 1, hBd.out⟩
      · have : k = xs.length := by omega
        subst this
        have h := he.out
        rw [List.take_length, ← hn2.out, List.take_length] at h
        go_wp2
        go_ret
        exact ⟨congrArg (fun b => Ending.returned (Value.bool b)) (decide_eq_true h).symm, m, hwr.out⟩
  · have hxy : Hid (xs ≠ ys) := Lib.hid fun h => hn (by rw [h])
    have h1 : ((xs.length : Int) == (ys.length : Int)) = false := beq_eq_false_iff_ne.2 (by omega)
    replace hn := Lib.hid hn
    go_enter Tryd.func48, Tryd.ntmps48
    go_wp2
    go_ret
    exact ⟨congrArg (fun b => Ending.returned (Value.bool b)) (decide_eq_false hxy.out).symm, 0, rfl⟩
end Go.Proofs.YtmnmmabhmedioaaDoor
