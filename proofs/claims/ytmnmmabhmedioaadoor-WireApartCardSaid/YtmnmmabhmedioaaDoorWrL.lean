/- Wire: SameMessage of one message (no list, no text). -/
import Derived.Test.YtmnmmabhmedioaaDoorWrK
namespace Go.Proofs.YtmnmmabhmedioaaDoor
open Go.RowKit
set_option linter.unusedVariables false
set_option linter.unusedSimpArgs false
set_option maxRecDepth 100000

def arrB (l : List UInt8) : Array Value := (l.map B8).toArray
def pairA (p : Pair) : Array Value := #[.int .i64 p.id] ++ arrB p.hid ++ arrB p.bnd
theorem eqlB (t : TypeId) (n : Nat) (ht : Tryd.prog.underlying t = some (.array n 5)) (l : List UInt8) (hl : l.length = n) (w : World) : (binOp .eql t (.agg (arrB l)) (.agg (arrB l))).run Tryd.prog w = .ok (.bool true) w := by
  have h := run_eql_bytes (P := Tryd.prog) w t 5 n ht Tryd.underlying5 size5 l l hl hl
  rw [show (l == l) = true from by simp] at h
  exact h
theorem fields29 : (Tryd.prog.fieldsOf 29).toList.map (fun f => (f.name, f.type, f.offset)) = [("ID", 3, 0), ("Hiding", 27, 1), ("Binding", 27, 33)] := by kernel_rfl
theorem eqArr (d : Nat) (t : TypeId) (n : Nat) (ht : Tryd.prog.underlying t = some (.array n 5)) (l : List UInt8) (hl : l.length = n) (w : World) : (Op.equalIn (d + 2) t (.agg (arrB l)) (.agg (arrB l))).run Tryd.prog w = .ok true w := by
  have h := run_equalIn_bytes (P := Tryd.prog) w d t 5 n ht Tryd.underlying5 size5 l l hl hl
  rw [show (l == l) = true from by simp] at h
  exact h
theorem eqFields_step {P : Program} (d : Nat) (xs : Array Value) (f : Field) (fs : List Field) (w : World) (a : Value) (hn : f.name ≠ "_") (ha : (part f.type xs f.offset).run P w = .ok a w) (he : (Op.equalIn d f.type a a).run P w = .ok true w) :
    (Op.eqFields d xs xs (f :: fs)).run P w = (Op.eqFields d xs xs fs).run P w := by
  rw [Op.eqFields, if_pos hn]
  simp only [Sem.run_bind, ha, he, Result.andThen_ok, Bool.not_true, Bool.false_eq_true, if_false]
theorem eqPair (d : Nat) (p : Pair) (h1 : p.hid.length = 32) (h2 : p.bnd.length = 32) (w : World) : (Op.equalIn (d + 3) 29 (.agg (pairA p)) (.agg (pairA p))).run Tryd.prog w = .ok true w := by
  have hf := fields29
  rw [run_equalIn_struct w (d + 2) 29 _ _ (by kernel_rfl) (by kernel_rfl)]
  generalize (Tryd.prog.fieldsOf 29).toList = fs at hf
  obtain ⟨f0, r0, rfl⟩ : ∃ f0 r0, fs = f0 :: r0 := by cases fs with | nil => simp at hf | cons a l => exact ⟨a, l, rfl⟩
  obtain ⟨f1, r1, rfl⟩ : ∃ f1 r1, r0 = f1 :: r1 := by cases r0 with | nil => simp at hf | cons a l => exact ⟨a, l, rfl⟩
  obtain ⟨f2, r2, rfl⟩ : ∃ f2 r2, r1 = f2 :: r2 := by cases r1 with | nil => simp at hf | cons a l => exact ⟨a, l, rfl⟩
  obtain rfl : r2 = [] := by cases r2 with | nil => rfl | cons a l => simp at hf
  simp only [List.map_cons, List.map_nil, List.cons.injEq, Prod.mk.injEq, and_true] at hf
  obtain ⟨⟨n0, t0, o0⟩, ⟨n1, t1, o1⟩, ⟨n2, t2, o2⟩⟩ := hf
  have x0 : (pairA p)[0]? = some (.int .i64 p.id) := by
    unfold pairA
    rw [Array.append_assoc, Array.getElem?_append_left (by simp)]
    rfl
  have x1 : (pairA p).extract 1 33 = arrB p.hid := by
    apply Array.toList_inj.1
    simp [pairA, arrB, h1]
    exact List.take_of_length_le (by simp [h1])
  have x2 : (pairA p).extract 33 65 = arrB p.bnd := by
    apply Array.toList_inj.1
    simp [pairA, arrB, h1, h2]
    exact List.take_of_length_le (by simp [h2])
  obtain ⟨j, hj, hjs⟩ := Option.map_eq_some_iff.1 (show (Tryd.prog.info? 27).map (·.size) = some 32 by kernel_rfl)
  have p0 : (part 3 (pairA p) 0).run Tryd.prog w = .ok (.int .i64 p.id) w := by
    simp [part, isAgg, run_underlying Tryd.underlying3, x0]
  have p1 : (part 27 (pairA p) 1).run Tryd.prog w = .ok (.agg (arrB p.hid)) w := by
    simp [part, isAgg, run_underlying Tryd.underlying27, sizeOf, typeInfo, hj, hjs, x1]
  have p2 : (part 27 (pairA p) 33).run Tryd.prog w = .ok (.agg (arrB p.bnd)) w := by
    simp [part, isAgg, run_underlying Tryd.underlying27, sizeOf, typeInfo, hj, hjs, x2]
  have e0 := run_equalIn_int (P := Tryd.prog) w (d + 1) 3 .i64 .i64 p.id p.id Tryd.underlying3
  have e1' := eqArr d 27 32 Tryd.underlying27 p.hid h1 w
  have e2' := eqArr d 27 32 Tryd.underlying27 p.bnd h2 w
  clear hj hjs h1 h2
  rw [show (p.id == p.id) = true from by simp] at e0
  have s0 : ("ID" : String) ≠ "_" := by decide
  have s1 : ("Hiding" : String) ≠ "_" := by decide
  have s2 : ("Binding" : String) ≠ "_" := by decide
  refine (eqFields_step (d + 2) (pairA p) f0 [f1, f2] w _ (by rw [n0]; exact s0) (by rw [t0, o0]; exact p0) (by rw [t0]; exact e0)).trans ?_
  refine (eqFields_step (d + 2) (pairA p) f1 [f2] w _ (by rw [n1]; exact s1) (by rw [t1, o1]; exact p1) (by rw [t1]; exact e1')).trans ?_
  exact (eqFields_step (d + 2) (pairA p) f2 [] w _ (by rw [n2]; exact s2) (by rw [t2, o2]; exact p2) (by rw [t2]; exact e2')).trans rfl
theorem eqlP (p : Pair) (h1 : p.hid.length = 32) (h2 : p.bnd.length = 32) (w : World) : (binOp .eql 29 (.agg (pairA p)) (.agg (pairA p))).run Tryd.prog w = .ok (.bool true) w := by
  rw [run_eql_struct, show (10000 : Nat) = 9997 + 3 from rfl, eqPair 9997 p h1 h2 w]
  rfl
end Go.Proofs.YtmnmmabhmedioaaDoor
