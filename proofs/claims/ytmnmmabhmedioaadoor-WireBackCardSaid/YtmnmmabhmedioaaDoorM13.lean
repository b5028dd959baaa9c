/- Wire: one field of a message's cells is set. (Printed by gen_set.py.) -/
import Derived.Test.YtmnmmabhmedioaaDoorM11
namespace Go.Proofs.YtmnmmabhmedioaaDoor
open Go.RowKit
set_option linter.unusedVariables false
set_option linter.unusedSimpArgs false
set_option maxRecDepth 100000

theorem cell_setOut {cs : Array Value} {j p : Nat} {v : Value} {vs : List Value} (h : cs[j]? = some v) (hj : j < p ∨ p + vs.length ≤ j) : (setRange cs p vs)[j]? = some v := by
  rw [setRange_out _ _ _ _ hj]
  exact h
theorem RowC.setOut {cs : Array Value} {o n p : Nat} {l : List UInt8} {vs : List Value} (h : RowC cs o n l) (hj : o + n ≤ p ∨ p + vs.length ≤ o) : RowC (setRange cs p vs) o n l :=
  ⟨h.1, fun i hi => cell_setOut (h.2 i hi) (by omega)⟩
theorem RowC.setIn {cs : Array Value} {o n : Nat} {l : List UInt8} (hl : l.length = n) (hs : o + n ≤ cs.size) : RowC (setRange cs o (l.map B8)) o n l :=
  ⟨hl, fun i hi => by
    rw [setRange_in _ _ _ _ (by simpa [hl] using hi) (by simpa [hl] using hs), List.getElem?_map, List.getD_eq_getElem?_getD, List.getElem?_eq_getElem (by omega)]
    rfl⟩
theorem cell_setIn {cs : Array Value} {o : Nat} {v : Value} (hs : o < cs.size) : (setRange cs o [v])[o]? = some v := by
  have h := setRange_in cs o [v] 0 (by simp) (by simp; omega)
  simpa using h
theorem row_pair {cs : Array Value} {o : Nat} {p : Pair} (hp : PairOk p) (hs : o + 65 ≤ cs.size) : (setRange cs o (pairA p).toList)[o]? = some (.int .i64 p.id) ∧ RowC (setRange cs o (pairA p).toList) (o + 1) 32 p.hid ∧ RowC (setRange cs o (pairA p).toList) (o + 33) 32 p.bnd := by
  have h65 : (pairA p).toList.length = 65 := by simpa using pairA_size hp
  have g : ∀ j v, (pairA p)[j]? = some v → (setRange cs o (pairA p).toList)[o + j]? = some v := fun j v hv => by
    have hj : j < 65 := by
      rcases Nat.lt_or_ge j 65 with h' | h'
      · exact h'
      · rw [Array.getElem?_eq_none (by rw [pairA_size hp]; exact h')] at hv; cases hv
    rw [setRange_in _ _ _ _ (by omega) (by omega)]
    simpa using hv
  refine ⟨g 0 _ (pairA_get0 p), ⟨hp.1, fun i hi => ?_⟩, ⟨hp.2, fun i hi => ?_⟩⟩
  · rw [Nat.add_assoc]; exact g (1 + i) _ (pairA_hid hp i hi)
  · rw [Nat.add_assoc]; exact g (33 + i) _ (pairA_bnd hp i hi)

theorem MsgC.set_kind {cs : Array Value} {m : Msg} {lv tv : Value} (h : MsgC cs m lv tv) (x : Int) : MsgC (setRange cs 0 [.int .i64 x]) { m with kind := x } lv tv := by
  have hv : ([.int .i64 x] : List Value).length = 1 := by rfl
  exact ⟨by rw [setRange_size]; exact h.size, cell_setIn (by rw [h.size]; decide), h.session.setOut (by simp [hv]), cell_setOut h.from_ (by simp [hv]), cell_setOut h.to_ (by simp [hv]), cell_setOut h.pid (by simp [hv]), h.hid.setOut (by simp [hv]), h.bnd.setOut (by simp [hv]), cell_setOut h.list (by simp [hv]), cell_setOut h.text (by simp [hv]), h.bind_.setOut (by simp [hv]), h.share.setOut (by simp [hv]), h.sig.setOut (by simp [hv]), cell_setOut h.code (by simp [hv])⟩
theorem MsgC.set_session {cs : Array Value} {m : Msg} {lv tv : Value} (h : MsgC cs m lv tv) (l : List UInt8) (hl : l.length = 32) : MsgC (setRange cs 1 (l.map B8)) { m with session := l } lv tv := by
  have hv : ((l.map B8) : List Value).length = 32 := by simpa using hl
  exact ⟨by rw [setRange_size]; exact h.size, cell_setOut h.kind (by simp [hv]), RowC.setIn hl (by rw [h.size]; decide), cell_setOut h.from_ (by simp [hv]), cell_setOut h.to_ (by simp [hv]), cell_setOut h.pid (by simp [hv]), h.hid.setOut (by simp [hv]), h.bnd.setOut (by simp [hv]), cell_setOut h.list (by simp [hv]), cell_setOut h.text (by simp [hv]), h.bind_.setOut (by simp [hv]), h.share.setOut (by simp [hv]), h.sig.setOut (by simp [hv]), cell_setOut h.code (by simp [hv])⟩
theorem MsgC.set_from_ {cs : Array Value} {m : Msg} {lv tv : Value} (h : MsgC cs m lv tv) (x : Int) : MsgC (setRange cs 33 [.int .i64 x]) { m with from_ := x } lv tv := by
  have hv : ([.int .i64 x] : List Value).length = 1 := by rfl
  exact ⟨by rw [setRange_size]; exact h.size, cell_setOut h.kind (by simp [hv]), h.session.setOut (by simp [hv]), cell_setIn (by rw [h.size]; decide), cell_setOut h.to_ (by simp [hv]), cell_setOut h.pid (by simp [hv]), h.hid.setOut (by simp [hv]), h.bnd.setOut (by simp [hv]), cell_setOut h.list (by simp [hv]), cell_setOut h.text (by simp [hv]), h.bind_.setOut (by simp [hv]), h.share.setOut (by simp [hv]), h.sig.setOut (by simp [hv]), cell_setOut h.code (by simp [hv])⟩
theorem MsgC.set_to_ {cs : Array Value} {m : Msg} {lv tv : Value} (h : MsgC cs m lv tv) (x : Int) : MsgC (setRange cs 34 [.int .i64 x]) { m with to_ := x } lv tv := by
  have hv : ([.int .i64 x] : List Value).length = 1 := by rfl
  exact ⟨by rw [setRange_size]; exact h.size, cell_setOut h.kind (by simp [hv]), h.session.setOut (by simp [hv]), cell_setOut h.from_ (by simp [hv]), cell_setIn (by rw [h.size]; decide), cell_setOut h.pid (by simp [hv]), h.hid.setOut (by simp [hv]), h.bnd.setOut (by simp [hv]), cell_setOut h.list (by simp [hv]), cell_setOut h.text (by simp [hv]), h.bind_.setOut (by simp [hv]), h.share.setOut (by simp [hv]), h.sig.setOut (by simp [hv]), cell_setOut h.code (by simp [hv])⟩
theorem MsgC.set_bind_ {cs : Array Value} {m : Msg} {lv tv : Value} (h : MsgC cs m lv tv) (l : List UInt8) (hl : l.length = 32) : MsgC (setRange cs 102 (l.map B8)) { m with bind_ := l } lv tv := by
  have hv : ((l.map B8) : List Value).length = 32 := by simpa using hl
  exact ⟨by rw [setRange_size]; exact h.size, cell_setOut h.kind (by simp [hv]), h.session.setOut (by simp [hv]), cell_setOut h.from_ (by simp [hv]), cell_setOut h.to_ (by simp [hv]), cell_setOut h.pid (by simp [hv]), h.hid.setOut (by simp [hv]), h.bnd.setOut (by simp [hv]), cell_setOut h.list (by simp [hv]), cell_setOut h.text (by simp [hv]), RowC.setIn hl (by rw [h.size]; decide), h.share.setOut (by simp [hv]), h.sig.setOut (by simp [hv]), cell_setOut h.code (by simp [hv])⟩
theorem MsgC.set_share {cs : Array Value} {m : Msg} {lv tv : Value} (h : MsgC cs m lv tv) (l : List UInt8) (hl : l.length = 32) : MsgC (setRange cs 134 (l.map B8)) { m with share := l } lv tv := by
  have hv : ((l.map B8) : List Value).length = 32 := by simpa using hl
  exact ⟨by rw [setRange_size]; exact h.size, cell_setOut h.kind (by simp [hv]), h.session.setOut (by simp [hv]), cell_setOut h.from_ (by simp [hv]), cell_setOut h.to_ (by simp [hv]), cell_setOut h.pid (by simp [hv]), h.hid.setOut (by simp [hv]), h.bnd.setOut (by simp [hv]), cell_setOut h.list (by simp [hv]), cell_setOut h.text (by simp [hv]), h.bind_.setOut (by simp [hv]), RowC.setIn hl (by rw [h.size]; decide), h.sig.setOut (by simp [hv]), cell_setOut h.code (by simp [hv])⟩
theorem MsgC.set_sig {cs : Array Value} {m : Msg} {lv tv : Value} (h : MsgC cs m lv tv) (l : List UInt8) (hl : l.length = 64) : MsgC (setRange cs 166 (l.map B8)) { m with sig := l } lv tv := by
  have hv : ((l.map B8) : List Value).length = 64 := by simpa using hl
  exact ⟨by rw [setRange_size]; exact h.size, cell_setOut h.kind (by simp [hv]), h.session.setOut (by simp [hv]), cell_setOut h.from_ (by simp [hv]), cell_setOut h.to_ (by simp [hv]), cell_setOut h.pid (by simp [hv]), h.hid.setOut (by simp [hv]), h.bnd.setOut (by simp [hv]), cell_setOut h.list (by simp [hv]), cell_setOut h.text (by simp [hv]), h.bind_.setOut (by simp [hv]), h.share.setOut (by simp [hv]), RowC.setIn hl (by rw [h.size]; decide), cell_setOut h.code (by simp [hv])⟩
theorem MsgC.set_code {cs : Array Value} {m : Msg} {lv tv : Value} (h : MsgC cs m lv tv) (x : Int) : MsgC (setRange cs 230 [.int .i64 x]) { m with code := x } lv tv := by
  have hv : ([.int .i64 x] : List Value).length = 1 := by rfl
  exact ⟨by rw [setRange_size]; exact h.size, cell_setOut h.kind (by simp [hv]), h.session.setOut (by simp [hv]), cell_setOut h.from_ (by simp [hv]), cell_setOut h.to_ (by simp [hv]), cell_setOut h.pid (by simp [hv]), h.hid.setOut (by simp [hv]), h.bnd.setOut (by simp [hv]), cell_setOut h.list (by simp [hv]), cell_setOut h.text (by simp [hv]), h.bind_.setOut (by simp [hv]), h.share.setOut (by simp [hv]), h.sig.setOut (by simp [hv]), cell_setIn (by rw [h.size]; decide)⟩
theorem MsgC.set_list {cs : Array Value} {m : Msg} {lv tv : Value} (h : MsgC cs m lv tv) (ps : List Pair) (v : Value) : MsgC (setRange cs 100 [v]) { m with list := ps } v tv := by
  have hv : ([v] : List Value).length = 1 := by rfl
  exact ⟨by rw [setRange_size]; exact h.size, cell_setOut h.kind (by simp [hv]), h.session.setOut (by simp [hv]), cell_setOut h.from_ (by simp [hv]), cell_setOut h.to_ (by simp [hv]), cell_setOut h.pid (by simp [hv]), h.hid.setOut (by simp [hv]), h.bnd.setOut (by simp [hv]), cell_setIn (by rw [h.size]; decide), cell_setOut h.text (by simp [hv]), h.bind_.setOut (by simp [hv]), h.share.setOut (by simp [hv]), h.sig.setOut (by simp [hv]), cell_setOut h.code (by simp [hv])⟩
theorem MsgC.set_text {cs : Array Value} {m : Msg} {lv tv : Value} (h : MsgC cs m lv tv) (x : List UInt8) (v : Value) : MsgC (setRange cs 101 [v]) { m with text := x } lv v := by
  have hv : ([v] : List Value).length = 1 := by rfl
  exact ⟨by rw [setRange_size]; exact h.size, cell_setOut h.kind (by simp [hv]), h.session.setOut (by simp [hv]), cell_setOut h.from_ (by simp [hv]), cell_setOut h.to_ (by simp [hv]), cell_setOut h.pid (by simp [hv]), h.hid.setOut (by simp [hv]), h.bnd.setOut (by simp [hv]), cell_setOut h.list (by simp [hv]), cell_setIn (by rw [h.size]; decide), h.bind_.setOut (by simp [hv]), h.share.setOut (by simp [hv]), h.sig.setOut (by simp [hv]), cell_setOut h.code (by simp [hv])⟩
theorem MsgC.set_pair {cs : Array Value} {m : Msg} {lv tv : Value} (h : MsgC cs m lv tv) (p : Pair) (hp : PairOk p) : MsgC (setRange cs 35 (pairA p).toList) { m with pair := p } lv tv := by
  have hv : ((pairA p).toList : List Value).length = 65 := by simpa using pairA_size hp
  exact ⟨by rw [setRange_size]; exact h.size, cell_setOut h.kind (by simp [hv]), h.session.setOut (by simp [hv]), cell_setOut h.from_ (by simp [hv]), cell_setOut h.to_ (by simp [hv]), (row_pair hp (by rw [h.size]; decide)).1, (row_pair hp (by rw [h.size]; decide)).2.1, (row_pair hp (by rw [h.size]; decide)).2.2, cell_setOut h.list (by simp [hv]), cell_setOut h.text (by simp [hv]), h.bind_.setOut (by simp [hv]), h.share.setOut (by simp [hv]), h.sig.setOut (by simp [hv]), cell_setOut h.code (by simp [hv])⟩
end Go.Proofs.YtmnmmabhmedioaaDoor
