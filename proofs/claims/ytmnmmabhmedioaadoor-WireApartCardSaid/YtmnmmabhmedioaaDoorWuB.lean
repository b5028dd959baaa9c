/- Wire: are two lists of commitments the same? (any two) -/
import Derived.Test.YtmnmmabhmedioaaDoorWuA
import Derived.StillTactics
namespace Go.Proofs.YtmnmmabhmedioaaDoor
open Go.RowKit
set_option linter.unusedVariables false
set_option linter.unusedSimpArgs false
set_option maxRecDepth 100000

deriving instance DecidableEq for Pair

theorem eqFields_stepB {P : Program} (d : Nat) (xs ys : Array Value) (f : Field) (fs : List Field) (w : World) (a b : Value) (r : Bool) (hn : f.name ≠ "_") (ha : (part f.type xs f.offset).run P w = .ok a w) (hb : (part f.type ys f.offset).run P w = .ok b w) (he : (Op.equalIn d f.type a b).run P w = .ok r w) :
    (Op.eqFields d xs ys (f :: fs)).run P w = if r then (Op.eqFields d xs ys fs).run P w else .ok false w := by
  rw [Op.eqFields, if_pos hn]
  simp only [Sem.run_bind, ha, hb, he, Result.andThen_ok]
  cases r <;> simp
theorem eqArrG (d : Nat) (t : TypeId) (n : Nat) (ht : Tryd.prog.underlying t = some (.array n 5)) (l l' : List UInt8) (hl : l.length = n) (hl' : l'.length = n) (w : World) : (Op.equalIn (d + 2) t (.agg (arrB l)) (.agg (arrB l'))).run Tryd.prog w = .ok (l == l') w :=
  run_equalIn_bytes (P := Tryd.prog) w d t 5 n ht Tryd.underlying5 size5 l l' hl hl'
theorem pairA_x1 {p : Pair} (h : PairOk p) : (pairA p).extract 1 33 = arrB p.hid := by
  apply Array.toList_inj.1
  simp [pairA, arrB, h.1]
  exact List.take_of_length_le (by simp [h.1])
theorem pairA_x2 {p : Pair} (h : PairOk p) : (pairA p).extract 33 65 = arrB p.bnd := by
  apply Array.toList_inj.1
  simp [pairA, arrB, h.1, h.2]
  exact List.take_of_length_le (by simp [h.2])
theorem part0 (p : Pair) (w : World) : (part 3 (pairA p) 0).run Tryd.prog w = .ok (.int .i64 p.id) w := by
  simp [part, isAgg, run_underlying Tryd.underlying3, pairA_get0 p]
theorem part1 {p : Pair} (h : PairOk p) (w : World) : (part 27 (pairA p) 1).run Tryd.prog w = .ok (.agg (arrB p.hid)) w := by
  obtain ⟨j, hj, hjs⟩ := Option.map_eq_some_iff.1 (show (Tryd.prog.info? 27).map (·.size) = some 32 by kernel_rfl)
  simp [part, isAgg, run_underlying Tryd.underlying27, sizeOf, typeInfo, hj, hjs, pairA_x1 h]
theorem part2 {p : Pair} (h : PairOk p) (w : World) : (part 27 (pairA p) 33).run Tryd.prog w = .ok (.agg (arrB p.bnd)) w := by
  obtain ⟨j, hj, hjs⟩ := Option.map_eq_some_iff.1 (show (Tryd.prog.info? 27).map (·.size) = some 32 by kernel_rfl)
  simp [part, isAgg, run_underlying Tryd.underlying27, sizeOf, typeInfo, hj, hjs, pairA_x2 h]
theorem eqPairG (d : Nat) (p q : Pair) (hp : PairOk p) (hq : PairOk q) (w : World) : (Op.equalIn (d + 3) 29 (.agg (pairA p)) (.agg (pairA q))).run Tryd.prog w = .ok (decide (p = q)) w := by
  have hf := fields29
  rw [run_equalIn_struct w (d + 2) 29 _ _ (by kernel_rfl) (by kernel_rfl)]
  generalize (Tryd.prog.fieldsOf 29).toList = fs at hf
  obtain ⟨f0, r0, rfl⟩ : ∃ f0 r0, fs = f0 :: r0 := by cases fs with | nil => simp at hf | cons a l => exact ⟨a, l, rfl⟩
  obtain ⟨f1, r1, rfl⟩ : ∃ f1 r1, r0 = f1 :: r1 := by cases r0 with | nil => simp at hf | cons a l => exact ⟨a, l, rfl⟩
  obtain ⟨f2, r2, rfl⟩ : ∃ f2 r2, r1 = f2 :: r2 := by cases r1 with | nil => simp at hf | cons a l => exact ⟨a, l, rfl⟩
  obtain rfl : r2 = [] := by cases r2 with | nil => rfl | cons a l => simp at hf
  simp only [List.map_cons, List.map_nil, List.cons.injEq, Prod.mk.injEq, and_true] at hf
  obtain ⟨⟨n0, t0, o0⟩, ⟨n1, t1, o1⟩, ⟨n2, t2, o2⟩⟩ := hf
  have e0 := run_equalIn_int (P := Tryd.prog) w (d + 1) 3 .i64 .i64 p.id q.id Tryd.underlying3
  have e1' := eqArrG d 27 32 Tryd.underlying27 p.hid q.hid hp.1 hq.1 w
  have e2' := eqArrG d 27 32 Tryd.underlying27 p.bnd q.bnd hp.2 hq.2 w
  have s0 : ("ID" : String) ≠ "_" := by decide
  have s1 : ("Hiding" : String) ≠ "_" := by decide
  have s2 : ("Binding" : String) ≠ "_" := by decide
  rw [eqFields_stepB (d + 2) (pairA p) (pairA q) f0 [f1, f2] w _ _ _ (by rw [n0]; exact s0) (by rw [t0, o0]; exact part0 p w) (by rw [t0, o0]; exact part0 q w) (by rw [t0]; exact e0),
    eqFields_stepB (d + 2) (pairA p) (pairA q) f1 [f2] w _ _ _ (by rw [n1]; exact s1) (by rw [t1, o1]; exact part1 hp w) (by rw [t1, o1]; exact part1 hq w) (by rw [t1]; exact e1'),
    eqFields_stepB (d + 2) (pairA p) (pairA q) f2 [] w _ _ _ (by rw [n2]; exact s2) (by rw [t2, o2]; exact part2 hp w) (by rw [t2, o2]; exact part2 hq w) (by rw [t2]; exact e2')]
  obtain ⟨pi, ph, pb⟩ := p
  obtain ⟨qi, qh, qb⟩ := q
  simp only [Pair.mk.injEq]
  by_cases h0 : pi = qi
  · by_cases h1 : ph = qh
    · by_cases h2 : pb = qb
      · simp [h0, h1, h2]; rfl
      · simp [h0, h1, h2]
    · simp [h0, h1]
  · simp [h0]
theorem neqP (p q : Pair) (hp : PairOk p) (hq : PairOk q) (w : World) : (binOp .neq 29 (.agg (pairA p)) (.agg (pairA q))).run Tryd.prog w = .ok (.bool (!(decide (p = q)))) w := by
  rw [run_neq_struct, show (10000 : Nat) = 9997 + 3 from rfl, eqPairG 9997 p q hp hq w]
  rfl
theorem eqlPG (p q : Pair) (hp : PairOk p) (hq : PairOk q) (w : World) : (binOp .eql 29 (.agg (pairA p)) (.agg (pairA q))).run Tryd.prog w = .ok (.bool (decide (p = q))) w := by
  rw [run_eql_struct, show (10000 : Nat) = 9997 + 3 from rfl, eqPairG 9997 p q hp hq w]
  rfl
theorem still_loadR {P : Program} {w : World} {ops : Array Oper} {op : Oper} {a : Act} {K : Act → Prop} (hgd : op.guard = none) (ty : TypeId) (x : Operand) (ho : op.op = .load ty x)
    (b o : Nat) (hx : a.eval x = .pointer (some ⟨b, o, none⟩)) (cs : Array Value) (hc : RowAt w b o cs) (d : TypeDesc)
    (hu : P.underlying ty = some d) (hd : d.isRow = true) (hi : (P.info? ty).map (·.size) = some cs.size)
    (h : K (a.put op.dst (.agg cs))) : if Region.wanted op (yielded ops a.tmps) then op.still P a w K else K (a.put op.dst undef) := by
  rw [if_pos (by simp [Region.wanted, hgd])]
  unfold Oper.still execOp
  have hr := run_loadVar_mid w b o ty cs.toList d (P := P) (fun j v hv => hc j v (by simpa using hv)) hu hd (by simpa using hi)
  simp only [ho, hx, Instr.loadAt, Instr.sureAddr, Sem.run_bind, Sem.run_pure, Result.andThen_ok, hr, Array.toArray_toList]
  rw [Oper.stillUpon_value]
  exact h
end Go.Proofs.YtmnmmabhmedioaaDoor
