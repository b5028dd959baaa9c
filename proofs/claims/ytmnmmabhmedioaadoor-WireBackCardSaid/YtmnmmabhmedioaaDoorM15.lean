/- Rows of commitments that are owned; append of commitments. -/
import Derived.Test.YtmnmmabhmedioaaDoorM11
import Derived.Test.YtmnmmabhmedioaaDoorM9
import Derived.Test.YtmnmmabhmedioaaDoorM14
import Derived.Maps.AppendAt
namespace Go.Proofs.YtmnmmabhmedioaaDoor
open Go.RowKit
set_option linter.unusedVariables false
set_option linter.unusedSimpArgs false
set_option maxRecDepth 100000

def cellsP (ps : List Pair) : List Value := ps.flatMap fun p => (pairA p).toList
/-- A row of commitments that is owned. -/
abbrev OwnP (w : World) (base : Nat) (A : Option Addr) (c : Nat) (ps : List Pair) : Prop := w.ownsRow base 29 65 (.slice A ps.length c) ps.length (cellsP ps)
abbrev PairsOk (ps : List Pair) : Prop := ∀ i, PairOk (ps.getD i Pair.zero)
theorem PairsOk.mem {ps : List Pair} (h : PairsOk ps) : ∀ p ∈ ps, PairOk p := fun p hp => by
  obtain ⟨i, hi, rfl⟩ := List.mem_iff_getElem.1 hp
  have := h i
  rwa [List.getD_eq_getElem?_getD, List.getElem?_eq_getElem hi] at this
theorem PairsOk.of {ps : List Pair} (h : ∀ p ∈ ps, PairOk p) : PairsOk ps := fun i => by
  rw [List.getD_eq_getElem?_getD]
  rcases Nat.lt_or_ge i ps.length with hi | hi
  · rw [List.getElem?_eq_getElem hi]; exact h _ (List.getElem_mem hi)
  · rw [List.getElem?_eq_none hi]; exact pair0_ok
theorem cellsP_len {ps : List Pair} (h : ∀ p ∈ ps, PairOk p) : (cellsP ps).length = ps.length * 65 := by
  induction ps with
  | nil => rfl
  | cons p r ih =>
    have h1 := pairA_size (h p (by simp))
    have h2 := ih (fun q hq => h q (by simp [hq]))
    unfold cellsP at h2 ⊢
    rw [List.flatMap_cons, List.length_append, h2, List.length_cons, Array.length_toList, h1]
    omega
theorem cellsP_get {ps : List Pair} (h : ∀ p ∈ ps, PairOk p) : ∀ (i j : Nat) (v : Value), i < ps.length → (pairA (ps.getD i Pair.zero))[j]? = some v → (cellsP ps)[i * 65 + j]? = some v := by
  induction ps with
  | nil => intro i j v hi; simp at hi
  | cons p r ih =>
    intro i j v hi hv
    have h1 := pairA_size (h p (by simp))
    have h65 : (pairA p).toList.length = 65 := by simpa using h1
    unfold cellsP
    rw [List.flatMap_cons]
    cases i with
    | zero =>
      have hj : j < 65 := by
        rcases Nat.lt_or_ge j 65 with h' | h'
        · exact h'
        · have hv' : (pairA p)[j]? = some v := by simpa using hv
          rw [Array.getElem?_eq_none (by omega)] at hv'; cases hv'
      rw [List.getElem?_append_left (by omega)]
      simpa using hv
    | succ i =>
      rw [List.getElem?_append_right (by omega), show (i + 1) * 65 + j - (pairA p).toList.length = i * 65 + j from by omega]
      exact ih (fun q hq => h q (by simp [hq])) i j v (by simpa using hi) (by simpa using hv)
theorem cellsP_one {ps : List Pair} : ∀ u ∈ cellsP ps, u.oneCell' = true := fun u hu => by
  obtain ⟨p, _, hp⟩ := List.mem_flatMap.1 hu
  exact Array.all_eq_true_iff_forall_mem.1 (pairA_one p) u (by simpa using hp)
theorem OwnP.pairs {w : World} {base : Nat} {A : Option Addr} {c : Nat} {ps : List Pair} (h : OwnP w base A c ps) (hp : ∀ p ∈ ps, PairOk p) : PairsIn w A ps := fun h0 => by
  rcases h.2 with ⟨_, h1⟩ | ⟨g, cap, cur, hv, _⟩
  · omega
  · cases hv
    refine ⟨g, 0, rfl, fun i hi j v hjv => ?_⟩
    have := h.cells (g := g) rfl (i * 65 + j) v (cellsP_get hp i j v hi hjv)
    rw [Go.WideShapes.add_plain] at this
    rw [Nat.zero_add]
    rw [Nat.zero_add] at this
    exact this
theorem OwnP.nil (w : World) (base : Nat) : OwnP w base none 0 [] := World.ownsRow_nil _ _ _ _
theorem OwnP.empty {w : World} {base R : Nat} {cur : Array Value} (h : w.heap[R]? = some (.cells cur 29 (0, 0))) (hc : cur.size = 0) (hb : base ≤ R) : OwnP w base (some ⟨R, 0, none⟩) 0 [] :=
  ⟨rfl, .inr ⟨R, 0, cur, rfl, hb, h, Nat.le_refl _, Nat.zero_le _, by rw [hc], rfl⟩⟩
theorem OwnP.ge {w : World} {base : Nat} {A : Option Addr} {c : Nat} {ps : List Pair} (h : OwnP w base A c ps) : ∀ a, A = some a → base ≤ a.block ∧ a.block < w.heap.size := fun a ha => by
  rcases h.2 with ⟨hv, _⟩ | ⟨g, cap, cur, hv, hb, hg, _⟩
  · subst ha; cases hv
  · subst ha; cases hv; exact ⟨hb, heap_lt hg⟩
theorem OwnP.ne {w : World} {base : Nat} {A : Option Addr} {c : Nat} {ps : List Pair} (h : OwnP w base A c ps) {b : Nat} {cs : Array Value} {T : TypeId} {fz : Nat × Nat} (hb : w.heap[b]? = some (.cells cs T fz)) (hT : T ≠ 29) : ∀ a, A = some a → a.block ≠ b := fun a ha e => by
  rcases h.2 with ⟨hv, _⟩ | ⟨g, cap, cur, hv, _, hg, _⟩
  · subst ha; cases hv
  · subst ha; cases hv
    have e : g = b := e
    subst e
    rw [hg] at hb
    cases hb
    exact hT rfl
theorem OwnP.keep {D : Nat → Prop} {w w' : World} {base : Nat} {A : Option Addr} {c : Nat} {ps : List Pair} (k : Keep D w w') (hn : ∀ a, A = some a → ¬ D a.block) (h : OwnP w base A c ps) : OwnP w' base A c ps :=
  k.owns (fun g hg => by cases A with
    | none => cases hg
    | some a => cases hg; exact hn a rfl) h
theorem OwnP.on {w w' : World} {base : Nat} {A : Option Addr} {c : Nat} {ps : List Pair} (hb : Below w.heap.size w w') (h : OwnP w base A c ps) : OwnP w' base A c ps := h.keep (Keep.of_below (D := fun _ => False) hb) (fun _ _ => id)
theorem OwnP.lower {w : World} {base B : Nat} {A : Option Addr} {c : Nat} {ps : List Pair} (h : OwnP w base A c ps) (hb : B ≤ base) : OwnP w B A c ps := by
  rcases h.2 with ⟨hv, h1⟩ | ⟨g, cap, cur, hv, h2, h3⟩
  · exact ⟨h.1, .inl ⟨hv, h1⟩⟩
  · exact ⟨h.1, .inr ⟨g, cap, cur, hv, Nat.le_trans hb h2, h3⟩⟩
theorem OwnP.cap {w : World} {base : Nat} {A : Option Addr} {c : Nat} {ps : List Pair} (h : OwnP w base A c ps) : ps.length ≤ c := by
  rcases h.2 with ⟨hv, h1⟩ | ⟨g, cap, cur, hv, _, _, h1, _⟩
  · omega
  · cases hv; exact h1
theorem infP : (Tryd.prog.info? 29).map (fun i => (i.zero, i.size, i.bytes)) = some (some (.agg Tryd.zeroCells29), 65, 72) := by kernel_rfl

section
variable (w : World)
/-- append(v, commitments...): whatever lies behind the heads, nothing among it. -/
theorem run_append_ps (ty : TypeId) (base : Nat) (A : Option Addr) (c : Nat) (xs : List Pair) (hown : OwnP w base A c xs)
    (X : Option Addr) (d : Nat) (l : List Pair) (hX : PairsIn w X l) (pl : ∀ p ∈ l, PairOk p) (hm : xs.length + l.length ≤ 1000000000000) (hbase : base ≤ w.heap.size) :
    ∃ A' c' w', (Builtin.append_ #[30, 30] ty #[.slice A xs.length c, .slice X l.length d]).run Tryd.prog w = .ok (.slice A' (xs.length + l.length) c') w' ∧
      OwnP w' base A' c' (xs ++ l) ∧ w.grownBy w' (Value.slice A xs.length c).ownBlock := by
  obtain ⟨i, hi, hz, hs, hby⟩ := info_parts infP
  have fin : ∀ {v' : Value} {w' : World} {n : Nat} {ys : List Value}, w'.ownsRow base 29 65 v' n ys → ∃ A' c', v' = .slice A' n c' := fun h => by
    rcases h.2 with ⟨hv, h1⟩ | ⟨g, cap, cur, hv, _⟩
    · exact ⟨_, _, by rw [hv, h1]⟩
    · exact ⟨_, _, hv⟩
  have len : ∀ {w' : World} {A' : Option Addr} {c' : Nat}, w'.ownsRow base 29 65 (.slice A' (xs.length + l.length) c') (xs.length + l.length) (cellsP xs ++ cellsP l) → OwnP w' base A' c' (xs ++ l) := fun h => by
    unfold OwnP cellsP
    rw [List.length_append, List.flatMap_append]
    exact h
  have go : ∀ a : Addr, X = some a → (∀ j u, (cellsP l)[j]? = some u → w.cell? (a.add j) = some u) → ∃ A' c' w', (Builtin.append_ #[30, 30] ty #[.slice A xs.length c, .slice X l.length d]).run Tryd.prog w = .ok (.slice A' (xs.length + l.length) c') w' ∧
      OwnP w' base A' c' (xs ++ l) ∧ w.grownBy w' (Value.slice A xs.length c).ownBlock := fun a ha hc => by
    obtain ⟨v', w', hr, h2, h3, _, h5⟩ := run_append_own_at (P := Tryd.prog) w base 30 ty 29 i (.agg Tryd.zeroCells29) 65 72 Tryd.underlying30 hi hz hs hby (by kernel_rfl) (by decide) (.slice A xs.length c) xs.length (cellsP xs) hown a l.length d (cellsP l) (cellsP_len pl) hc cellsP_one (by unfold maxLen; omega) (by omega) hbase
    obtain ⟨A', c', rfl⟩ := fin h2
    exact ⟨A', c', w', by rw [ha]; exact hr, len h2, h3⟩
  rcases Nat.eq_zero_or_pos l.length with h0 | h0
  · obtain rfl : l = [] := List.eq_nil_of_length_eq_zero h0
    cases X with
    | some a => exact go a rfl (fun j u h => by simp [cellsP] at h)
    | none =>
      rcases hown.2 with ⟨hv, h1⟩ | ⟨g, cap, cur, hv, hb, hg, h1, _⟩
      · obtain ⟨rfl, -, rfl⟩ := Value.slice.inj hv
        obtain rfl : xs = [] := List.eq_nil_of_length_eq_zero h1
        refine ⟨none, 0, w, ?_, World.ownsRow_nil _ _ _ _, ⟨rfl, rfl, rfl, Nat.le_refl _, fun _ _ _ => rfl⟩⟩
        simp [Builtin.append_, run_underlying Tryd.underlying30, sizeOf, typeInfo, hi, Builtin.lenOf, Builtin.firstCells]
      · cases hv
        refine ⟨some ⟨g, 0, none⟩, c, w, ?_, len (by rw [show cellsP xs ++ cellsP [] = cellsP xs from by simp [cellsP]]; exact hown), ⟨rfl, rfl, rfl, Nat.le_refl _, fun _ _ _ => rfl⟩⟩
        simp [Builtin.append_, run_underlying Tryd.underlying30, sizeOf, typeInfo, hi, Builtin.lenOf, Builtin.firstCells, h1, storeCells]
  · obtain ⟨b, o, rfl, hc⟩ := hX h0
    refine go _ rfl fun j u hu => ?_
    have hj : j < l.length * 65 := by
      rw [← cellsP_len pl]
      rcases Nat.lt_or_ge j (cellsP l).length with h' | h'
      · exact h'
      · rw [List.getElem?_eq_none h'] at hu; cases hu
    have hi2 : j / 65 < l.length := by omega
    have h65 := pairA_size (PairsOk.of pl (j / 65))
    obtain ⟨v, hv⟩ : ∃ v, (pairA (l.getD (j / 65) Pair.zero))[j % 65]? = some v := ⟨_, Array.getElem?_eq_getElem (by omega)⟩
    have h1 := hc (j / 65) hi2 (j % 65) v hv
    have h2 := cellsP_get pl (j / 65) (j % 65) v hi2 hv
    rw [show j / 65 * 65 + j % 65 = j from by omega, hu] at h2
    cases h2
    rw [Go.WideShapes.add_plain, ← h1, show o + j / 65 * 65 + j % 65 = o + j from by omega]
theorem wpList_append_ps {ops : Array Oper} {rest : List Oper} {o : Oper} {a : Act} {Q : Exit → Act → World → Prop} (hgd : o.guard = none) (s x : Operand)
    (ho : o.op = .call { callee := .builtin .append, args := #[s, x], argTypes := #[30, 30] })
    (base : Nat) (A : Option Addr) (n c : Nat) (xs : List Pair) (hn : xs.length = n) (hs : a.eval s = .slice A n c) (hown : OwnP w base A c xs)
    (X : Option Addr) (m d : Nat) (l : List Pair) (hl : l.length = m) (hx : a.eval x = .slice X m d) (hX : PairsIn w X l) (pl : ∀ p ∈ l, PairOk p) (hm : xs.length + l.length ≤ 1000000000000) (hbase : base ≤ w.heap.size)
    (h : ∀ A' c' w', OwnP w' base A' c' (xs ++ l) → w.grownBy w' (Value.slice A n c).ownBlock → wpList Tryd.prog ops Q rest (a.put o.dst (.slice A' (n + m) c')) w') : wpList Tryd.prog ops Q (o :: rest) a w := by
  subst hn
  subst hl
  refine wpList_plain hgd fun K hK => ?_
  obtain ⟨A', c', w', hr, h2, h3⟩ := run_append_ps w o.type base A c xs hown X d l hX pl hm hbase
  unfold Oper.wp execOp
  simp only [ho, resolve, invoke, builtin, Sem.run_bind, Sem.run_pure, Result.andThen_ok, List.map_toArray, List.map_cons, List.map_nil, hs, hx, hr]
  exact hK _ _ (h A' c' w' h2 h3)
end
theorem grewP_box {w w' : World} {base : Nat} {A : Option Addr} {c n : Nat} {l : List Pair} (hO : OwnP w base A c l) (hg : w.grownBy w' (Value.slice A n c).ownBlock) {X : Nat} {cs : Array Value} {T : TypeId} {fz : Nat × Nat}
    (hX : w.heap[X]? = some (.cells cs T fz)) (hT : T ≠ 29) : w'.heap[X]? = some (.cells cs T fz) :=
  (keep_grew (D := fun k => k ≠ X) hg (fun a ha => hO.ne hX hT a ha)).heap (by simp) hX
theorem below_grewP {B base : Nat} {a w w' : World} {A : Option Addr} {c n : Nat} {l : List Pair} (h : Below B a w) (hO : OwnP w base A c l) (hb : B ≤ base) (hs : B ≤ w.heap.size) (hg : w.grownBy w' (Value.slice A n c).ownBlock) : Below B a w' :=
  h.grown hg hs (fun k hk => by
    cases A with
    | none => cases hk
    | some x => cases hk; exact Nat.le_trans hb (hO.ge x rfl).1)
end Go.Proofs.YtmnmmabhmedioaaDoor
/- Wire: the reference's Used, kinds 3 and 5; of any message. (Printed by gen_used.py two.) -/
namespace Go.Proofs.YtmnmmabhmedioaaDoor
open Go.RowKit
set_option linter.unusedVariables false
set_option linter.unusedSimpArgs false
set_option maxRecDepth 100000


set_option maxHeartbeats 16000000 in
theorem used_5 (c1 : Array Value) (m : Msg) (LA : Option Addr) (lc : Nat) (TA : Option Addr) (tc : Nat) (w : World) (hM : MsgIn w c1 m LA lc TA tc) (hk : m.kind = 5) : Calls Tryd.prog 54 #[.agg c1] w fun e w' => UsedPost w m e w' := by
  have hu : usedM m = { baseM m with code := m.code } := by simp [usedM, hk]
  replace hu := Lib.hid hu
  replace hk := Lib.hid hk
  have hX : ((w.alloc (.cells c1 36)).alloc (.cells Tryd.zeroCells36 36)).heap[w.heap.size]? = some (.cells c1 36 (0, 0)) := by
    rw [heap_alloc?, if_neg (by simp)]; exact heap_alloc_new w _
  have hY : ((w.alloc (.cells c1 36)).alloc (.cells Tryd.zeroCells36 36)).heap[w.heap.size + 1]? = some (.cells Tryd.zeroCells36 36 (0, 0)) := by
    rw [heap_alloc?, if_pos (by simp)]
  have hB : Below w.heap.size w ((w.alloc (.cells c1 36)).alloc (.cells Tryd.zeroCells36 36)) := later (boxed _ _) (boxed _ _)
  have hs : ((w.alloc (.cells c1 36)).alloc (.cells Tryd.zeroCells36 36)).heap.size = w.heap.size + 2 := by simp
  have h1 := hM.cells
  have hkk := h1.kind
  have k0 : ((w.alloc (.cells c1 36)).alloc (.cells Tryd.zeroCells36 36)).cell? ⟨w.heap.size, 0, none⟩ = some (.int .i64 m.kind) := cell_of hX h1.kind
  have k33 := cell_of hX h1.from_
  have k34 := cell_of hX h1.to_
  have x1 := Lib.hid (rowAt_of hX h1.session)
  have i1 : (Tryd.prog.info? 26).map (·.size) = some (arrB m.session).size := by rw [show (arrB m.session).size = 32 from by simp [arrB, h1.session.1]]; kernel_rfl
  have hD0 : MsgC (((setRange (Tryd.zeroCells36.setIfInBounds 0 (.int .i64 m.kind)) 1 (arrB m.session).toList).setIfInBounds 33 (.int .i64 m.from_)).setIfInBounds 34 (.int .i64 m.to_)) (baseM m) (.slice none 0 0) (.slice none 0 0) :=
    (((zC_msg.set_kind m.kind).set_session m.session h1.session.1).set_from_ m.from_).set_to_ m.to_
  replace h1 := Lib.hid h1
  replace hX := Lib.hid hX
  replace hY := Lib.hid hY
  replace hB := Lib.hid hB
  go_enter Tryd.func54, Tryd.ntmps54
  go_upto_region 1 with fail
  generalize ((w.alloc (.cells c1 36)).alloc (.cells Tryd.zeroCells36 36)) = W at *
  go_step
  refine wpList_step (fun K hK => ?_); go_simp; refine hK _ _ ?_; clear hK
  refine wpList_step (fun K hK => ?_); go_simp; refine hK _ _ ?_; clear hK
  refine wpList_step (fun K hK => ?_); go_simp; refine hK _ _ ?_; clear hK
  apply wpList_loadG (hc := x1.out) (hu := Tryd.underlying26) (hi := i1); (case ho => exact rfl); (case hx => exact rfl); (case hd => rfl); (case hw => simp [Region.wanted, yielded])
  refine wpList_step (fun K hK => ?_); go_simp; refine hK _ _ ?_; clear hK
  refine wpList_step (fun K hK => ?_); go_simp; refine hK _ _ ?_; clear hK
  refine wpList_step (fun K hK => ?_); go_simp; refine hK _ _ ?_; clear hK
  refine wpList_step (fun K hK => ?_); go_simp; refine hK _ _ ?_; clear hK
  refine wpList_step (fun K hK => ?_); go_simp
  rw [put_foldA]
  have hsz : (arrB m.session).size = 32 := by simp [arrB, h1.out.session.1]
  simp only [hsz, setRange_size, Array.size_setIfInBounds, zC_size]
  go_simp
  refine hK _ _ ?_
  clear hK
  generalize (((setRange (Tryd.zeroCells36.setIfInBounds 0 (.int .i64 m.kind)) 1 (arrB m.session).toList).setIfInBounds 33 (.int .i64 m.from_)).setIfInBounds 34 (.int .i64 m.to_)) = D at hD0 ⊢
  have hif : (Tryd.prog.info? 36).map (·.size) = some D.size := by rw [hD0.size]; kernel_rfl
  have hzD : Tryd.zeroCells36.size = D.size := by rw [hD0.size]; exact zC_size
  have hone := hD0.one rfl rfl
  have hz := Lib.hid (heap_alloc_new W (.cells Tryd.zeroCells36 36))
  rw [hs] at hz
  have hrow : Hid ((W.alloc (.cells Tryd.zeroCells36 36)).setRow (w.heap.size + 2) D = W.alloc (.cells D 36)) := Lib.hid (by rw [← hs]; exact World.setRow_alloc_new _ _ _ _)
  have hX3 := Lib.hid (heap_on (boxed W (.cells D 36)) hX.out)
  have hY3 := Lib.hid (heap_on (boxed W (.cells D 36)) hY.out)
  have hO3 := Lib.hid (heap_alloc_new W (.cells D 36))
  rw [hs] at hO3
  have hB3 := Lib.hid (later' hB.out (boxed W (.cells D 36)))
  clear k33 k34 x1 i1 hsz hX hY hB
  go_upto_region 2 with (refine wpList_storeW _ rfl _ _ _ rfl (w.heap.size + 2) D rfl rfl _ _ hz.out hif hzD hone ?_)
  rw [hrow.out]
  clear hrow hz k0 hone hif hzD
  generalize W.alloc (.cells D 36) = W3 at hX3 hY3 hO3 hB3 ⊢
  have k0 : W3.cell? ⟨w.heap.size, 0, none⟩ = some (.int .i64 5) := by rw [← hk.out]; exact cell_of hX3.out hkk
  clear hs
  replace hD0 := Lib.hid hD0
  replace hkk := Lib.hid hkk
  have k230 : W3.cell? ⟨w.heap.size, 230, none⟩ = some (.int .i64 m.code) := cell_of hX3.out h1.out.code
  have o230 : W3.cell? ⟨w.heap.size + 2, 230, none⟩ = some (.int .i64 0) := cell_of hO3.out hD0.out.code
  have z230 : W3.frozen? ⟨w.heap.size + 2, 230, none⟩ = false := free_of hO3.out
  have hD1 := Lib.hid (hD0.out.set_code m.code)
  have hO4 := Lib.hid (heap_set (o := 230) hO3.out (.int .i64 m.code))
  have hKk : Keep (fun k => k = w.heap.size + 2) W3 (W3.setCell ⟨w.heap.size + 2, 230, none⟩ (.int .i64 m.code)) := Keep.set (fun k => k = w.heap.size + 2) _ _ _ rfl
  have hY4 := Lib.hid (hKk.heap (show ¬ w.heap.size + 1 = w.heap.size + 2 by omega) hY3.out)
  have hB4 := Lib.hid (below_keep hB3.out hKk (fun i e => by omega) hB3.out.size)
  clear hKk
  go_upto_region 16 with fail
  clear k230 o230 z230
  generalize W3.setCell ⟨w.heap.size + 2, 230, none⟩ (.int .i64 m.code) = W4 at hO4 hY4 hB4 ⊢
  obtain ⟨E, hE⟩ : ∃ E, W4.heap[w.heap.size + 2]? = some (.cells E 36 (0, 0)) ∧ MsgC E (usedM m) (.slice none 0 0) (.slice none 0 0) := ⟨_, hO4.out, by rw [hu.out]; exact hD1.out⟩
  have hif : (Tryd.prog.info? 36).map (·.size) = some E.size := by rw [hE.2.size]; kernel_rfl
  have hzD : Tryd.zeroCells36.size = E.size := by rw [hE.2.size]; exact zC_size
  have hone := hE.2.one rfl rfl
  have rE := Lib.hid (rowAt_all hE.1)
  have hKy := setRow_keep W4 (w.heap.size + 1) E
  have hYz := setRow_heap W4 (w.heap.size + 1) _ E _ _ hY4.out
  have hBz := below_keep hB4.out hKy (fun i e => by omega) hB4.out.size
  replace hE := Lib.hid hE
  go_wp2_with (first | (refine wpList_loadM _ rfl _ _ rfl (w.heap.size + 2) 0 rfl E rE.out _ Tryd.underlying36 rfl hif ?_) | (refine wpList_storeW _ rfl _ _ _ rfl (w.heap.size + 1) E rfl rfl _ _ hY4.out hif hzD hone ?_))
  have hL := run_loadVar_row (P := Tryd.prog) _ (w.heap.size + 1) 36 36 E (0, 0) _ hYz Tryd.underlying36 rfl hif
  have hul : (usedM m).list = [] ∧ (usedM m).text = [] := by rw [hu.out]; exact ⟨rfl, rfl⟩
  have hfin := hE.out.2
  refine bodyPost_ret (v := .agg E) (results_cell1 rfl _ _ ⟨w.heap.size + 1, 0, none⟩ (.agg E) rfl hL) rfl ⟨E, none, 0, none, 0, rfl, ⟨?_, ?_, ?_, ?_, ?_, ?_, ?_, ?_⟩, hBz, (fun a ha => by cases ha), (fun a ha => by cases ha)⟩
  · rw [hul.1, hul.2]; exact hfin
  · rw [hul.1]; exact Nat.le_refl _
  · rw [hul.2]; exact Nat.le_refl _
  · rw [hul.1]; exact PairsIn.nil _ _
  · rw [hul.2]; exact Bs.nil _ _
  · rw [hul.1]; exact fun i => pair0_ok
  · rw [hul.1]; exact Nat.zero_le _
  · rw [hul.2]; exact Nat.zero_le _

theorem hcapB {w : World} {base : Nat} {A : Option Addr} {c : Nat} {l : List UInt8} (h : OwnB w base A c l) : l.length ≤ c := by
  rcases h.form with ⟨_, _, h2⟩ | ⟨_, _, _, _, _, h2⟩
  · rw [h2]; exact Nat.zero_le _
  · exact h2


set_option maxHeartbeats 16000000 in
theorem used_3 (c1 : Array Value) (m : Msg) (LA : Option Addr) (lc : Nat) (TA : Option Addr) (tc : Nat) (w : World) (hM : MsgIn w c1 m LA lc TA tc) (hk : m.kind = 3) (hbd : m.kind = 3 → m.list.length ≤ 255 ∧ m.text.length ≤ 1048575) : Calls Tryd.prog 54 #[.agg c1] w fun e w' => UsedPost w m e w' := by
  have hu : usedM m = { baseM m with list := m.list, text := m.text } := by simp [usedM, hk]
  replace hu := Lib.hid hu
  replace hk := Lib.hid hk
  replace hbd := Lib.hid hbd
  have hX : ((w.alloc (.cells c1 36)).alloc (.cells Tryd.zeroCells36 36)).heap[w.heap.size]? = some (.cells c1 36 (0, 0)) := by
    rw [heap_alloc?, if_neg (by simp)]; exact heap_alloc_new w _
  have hY : ((w.alloc (.cells c1 36)).alloc (.cells Tryd.zeroCells36 36)).heap[w.heap.size + 1]? = some (.cells Tryd.zeroCells36 36 (0, 0)) := by
    rw [heap_alloc?, if_pos (by simp)]
  have hB : Below w.heap.size w ((w.alloc (.cells c1 36)).alloc (.cells Tryd.zeroCells36 36)) := later (boxed _ _) (boxed _ _)
  have hs : ((w.alloc (.cells c1 36)).alloc (.cells Tryd.zeroCells36 36)).heap.size = w.heap.size + 2 := by simp
  have h1 := hM.cells
  have hkk := h1.kind
  have k0 : ((w.alloc (.cells c1 36)).alloc (.cells Tryd.zeroCells36 36)).cell? ⟨w.heap.size, 0, none⟩ = some (.int .i64 m.kind) := cell_of hX h1.kind
  have k33 := cell_of hX h1.from_
  have k34 := cell_of hX h1.to_
  have x1 := Lib.hid (rowAt_of hX h1.session)
  have i1 : (Tryd.prog.info? 26).map (·.size) = some (arrB m.session).size := by rw [show (arrB m.session).size = 32 from by simp [arrB, h1.session.1]]; kernel_rfl
  have hD0 : MsgC (((setRange (Tryd.zeroCells36.setIfInBounds 0 (.int .i64 m.kind)) 1 (arrB m.session).toList).setIfInBounds 33 (.int .i64 m.from_)).setIfInBounds 34 (.int .i64 m.to_)) (baseM m) (.slice none 0 0) (.slice none 0 0) :=
    (((zC_msg.set_kind m.kind).set_session m.session h1.session.1).set_from_ m.from_).set_to_ m.to_
  replace h1 := Lib.hid h1
  replace hX := Lib.hid hX
  replace hY := Lib.hid hY
  replace hB := Lib.hid hB
  go_enter Tryd.func54, Tryd.ntmps54
  go_upto_region 1 with fail
  generalize ((w.alloc (.cells c1 36)).alloc (.cells Tryd.zeroCells36 36)) = W at *
  go_step
  refine wpList_step (fun K hK => ?_); go_simp; refine hK _ _ ?_; clear hK
  refine wpList_step (fun K hK => ?_); go_simp; refine hK _ _ ?_; clear hK
  refine wpList_step (fun K hK => ?_); go_simp; refine hK _ _ ?_; clear hK
  apply wpList_loadG (hc := x1.out) (hu := Tryd.underlying26) (hi := i1); (case ho => exact rfl); (case hx => exact rfl); (case hd => rfl); (case hw => simp [Region.wanted, yielded])
  refine wpList_step (fun K hK => ?_); go_simp; refine hK _ _ ?_; clear hK
  refine wpList_step (fun K hK => ?_); go_simp; refine hK _ _ ?_; clear hK
  refine wpList_step (fun K hK => ?_); go_simp; refine hK _ _ ?_; clear hK
  refine wpList_step (fun K hK => ?_); go_simp; refine hK _ _ ?_; clear hK
  refine wpList_step (fun K hK => ?_); go_simp
  rw [put_foldA]
  have hsz : (arrB m.session).size = 32 := by simp [arrB, h1.out.session.1]
  simp only [hsz, setRange_size, Array.size_setIfInBounds, zC_size]
  go_simp
  refine hK _ _ ?_
  clear hK
  generalize (((setRange (Tryd.zeroCells36.setIfInBounds 0 (.int .i64 m.kind)) 1 (arrB m.session).toList).setIfInBounds 33 (.int .i64 m.from_)).setIfInBounds 34 (.int .i64 m.to_)) = D at hD0 ⊢
  have hif : (Tryd.prog.info? 36).map (·.size) = some D.size := by rw [hD0.size]; kernel_rfl
  have hzD : Tryd.zeroCells36.size = D.size := by rw [hD0.size]; exact zC_size
  have hone := hD0.one rfl rfl
  have hz := Lib.hid (heap_alloc_new W (.cells Tryd.zeroCells36 36))
  rw [hs] at hz
  have hrow : Hid ((W.alloc (.cells Tryd.zeroCells36 36)).setRow (w.heap.size + 2) D = W.alloc (.cells D 36)) := Lib.hid (by rw [← hs]; exact World.setRow_alloc_new _ _ _ _)
  have hX3 := Lib.hid (heap_on (boxed W (.cells D 36)) hX.out)
  have hY3 := Lib.hid (heap_on (boxed W (.cells D 36)) hY.out)
  have hO3 := Lib.hid (heap_alloc_new W (.cells D 36))
  rw [hs] at hO3
  have hB3 := Lib.hid (later' hB.out (boxed W (.cells D 36)))
  clear k33 k34 x1 i1 hsz hX hY hB
  go_upto_region 2 with (refine wpList_storeW _ rfl _ _ _ rfl (w.heap.size + 2) D rfl rfl _ _ hz.out hif hzD hone ?_)
  rw [hrow.out]
  clear hrow hz k0 hone hif hzD
  generalize W.alloc (.cells D 36) = W3 at hX3 hY3 hO3 hB3 ⊢
  have k0 : W3.cell? ⟨w.heap.size, 0, none⟩ = some (.int .i64 3) := by rw [← hk.out]; exact cell_of hX3.out hkk
  clear hs
  replace hD0 := Lib.hid hD0
  replace hkk := Lib.hid hkk
  have hl := (hbd.out hk.out).1
  have ht := (hbd.out hk.out).2
  have hpk := Lib.hid (PairsOk.mem hM.pok)
  have hs3 : w.heap.size + 2 < W3.heap.size := heap_lt hO3.out
  have hLs := Lib.hid (hM.list.on (later' hB3.out (boxed W3 (.cells #[] 29)) (by omega)))
  have hTx := Lib.hid hM.text
  replace hM := Lib.hid hM
  have hE4 : Hid (OwnP (W3.alloc (.cells #[] 29)) (w.heap.size + 3) (some ⟨W3.heap.size, 0, none⟩) 0 []) := Lib.hid (OwnP.empty (heap_alloc_new W3 _) rfl (by omega))
  have k100 : (W3.alloc (.cells #[] 29)).cell? ⟨w.heap.size, 100, none⟩ = some (.slice LA m.list.length lc) := cell_on (boxed _ _) (cell_of hX3.out h1.out.list)
  go_wp2_with (at_builtin; go_must (refine wpList_append_ps _ rfl _ _ rfl (w.heap.size + 3) (some ⟨W3.heap.size, 0, none⟩) 0 0 [] rfl rfl hE4.out LA m.list.length lc m.list rfl rfl hLs.out hpk.out ?qa ?qb ?_))
  case qa => first | omega | (simp; omega)
  case qb => first | omega | (simp; omega)
  intro A4 c4 w4 hP4 hg4
  have hX4 := grewP_box hE4.out hg4 (heap_on (boxed _ _) hX3.out) (by decide)
  have hY4 := grewP_box hE4.out hg4 (heap_on (boxed _ _) hY3.out) (by decide)
  have hO4 := grewP_box hE4.out hg4 (heap_on (boxed _ _) hO3.out) (by decide)
  have hB4 := Lib.hid (below_grewP (later' hB3.out (boxed _ _) (by omega)) hE4.out (by omega) (by simp; omega) hg4)
  have hP4' : Hid (OwnP w4 (w.heap.size + 3) A4 c4 m.list) := Lib.hid (by simpa using hP4)
  replace hP4 := True.intro
  try rw [Nat.zero_add]
  have o100 : w4.cell? ⟨w.heap.size + 2, 100, none⟩ = some (.slice none 0 0) := cell_of hO4 hD0.out.list
  have z100 : w4.frozen? ⟨w.heap.size + 2, 100, none⟩ = false := free_of hO4
  have hD1 := Lib.hid (hD0.out.set_list m.list (.slice A4 m.list.length c4))
  have hO5 := Lib.hid (heap_set (o := 100) hO4 (.slice A4 m.list.length c4))
  have hKk : Keep (fun k => k = w.heap.size + 2) w4 (w4.setCell ⟨w.heap.size + 2, 100, none⟩ (.slice A4 m.list.length c4)) := Keep.set (fun k => k = w.heap.size + 2) _ _ _ rfl
  have hX5 := Lib.hid (hKk.heap (show ¬ w.heap.size = w.heap.size + 2 by omega) hX4)
  have hY5 := Lib.hid (hKk.heap (show ¬ w.heap.size + 1 = w.heap.size + 2 by omega) hY4)
  have hP5 := Lib.hid (hP4'.out.keep hKk (fun a ha => by have := (hP4'.out.ge a ha).1; omega))
  have hB5 := Lib.hid (below_keep hB4.out hKk (fun i e => by omega) hB4.out.size)
  clear hKk hE4 hg4 hLs k100 hX4 hY4 hX3 hY3 hO3 hB3 hs3
  replace hO4 := Lib.hid hO4
  go_upto_region 7 with fail
  clear o100 z100 hO4 hB4 hP4'
  generalize w4.setCell ⟨w.heap.size + 2, 100, none⟩ (.slice A4 m.list.length c4) = W5 at hO5 hX5 hY5 hP5 hB5 ⊢
  have hs5 : w.heap.size + 2 < W5.heap.size := heap_lt hO5.out
  obtain ⟨i0, hi0, hz0, hz1, hz2⟩ := info_parts inf5
  have hE6 : Hid (OwnB (W5.alloc (.cells #[] 5)) (w.heap.size + 3) (some ⟨W5.heap.size, 0, none⟩) 0 []) := Lib.hid ⟨rfl, .inr ⟨W5.heap.size, 0, #[], rfl, by omega, heap_alloc_new W5 _, Nat.le_refl _, Nat.zero_le _, rfl, rfl⟩⟩
  have hT6 := Lib.hid (hTx.out.on (later' hB5.out (boxed W5 (.cells #[] 5)) (by omega)))
  have k101 : (W5.alloc (.cells #[] 5)).cell? ⟨w.heap.size, 101, none⟩ = some (.slice TA m.text.length tc) := cell_on (boxed _ _) (cell_of hX5.out h1.out.text)
  go_wp2_with (at_builtin; go_must (refine wpList_append_bs _ rfl _ _ 22 rfl (w.heap.size + 3) i0 Tryd.underlying22 hi0 hz0 hz1 hz2 (some ⟨W5.heap.size, 0, none⟩) 0 0 [] rfl rfl hE6.out TA m.text.length tc m.text rfl rfl hT6.out ?qc ?qd ?_))
  case qc => first | omega | (simp; omega)
  case qd => first | omega | (simp; omega)
  intro A6 c6 w6 hO6 hg6 hat6
  have hX6 := grew_box hE6.out hg6 (heap_on (boxed _ _) hX5.out) (by decide)
  have hY6 := grew_box hE6.out hg6 (heap_on (boxed _ _) hY5.out) (by decide)
  have hQ6 := grew_box hE6.out hg6 (heap_on (boxed _ _) hO5.out) (by decide)
  have hB6 := Lib.hid (below_grew (later' hB5.out (boxed _ _) (by omega)) hE6.out (by omega) (by simp; omega) hg6)
  have hP6 : Hid (OwnP w6 (w.heap.size + 3) A4 c4 m.list) := Lib.hid ((hP5.out.on (boxed W5 (.cells #[] 5))).keep (keep_grew (D := fun k => k = W5.heap.size) hg6 (fun a ha => by cases ha; rfl)) (fun a ha => by have := (hP5.out.ge a ha).2; omega))
  have hO6' : Hid (OwnB w6 (w.heap.size + 3) A6 c6 m.text) := Lib.hid (by simpa using hO6)
  replace hO6 := True.intro
  try rw [Nat.zero_add]
  have o101 : w6.cell? ⟨w.heap.size + 2, 101, none⟩ = some (.slice none 0 0) := cell_of hQ6 hD1.out.text
  have z101 : w6.frozen? ⟨w.heap.size + 2, 101, none⟩ = false := free_of hQ6
  have hD2 := Lib.hid (hD1.out.set_text m.text (.slice A6 m.text.length c6))
  have hO7 := Lib.hid (heap_set (o := 101) hQ6 (.slice A6 m.text.length c6))
  have hKk : Keep (fun k => k = w.heap.size + 2) w6 (w6.setCell ⟨w.heap.size + 2, 101, none⟩ (.slice A6 m.text.length c6)) := Keep.set (fun k => k = w.heap.size + 2) _ _ _ rfl
  have hY7 := Lib.hid (hKk.heap (show ¬ w.heap.size + 1 = w.heap.size + 2 by omega) hY6)
  have hP7 := Lib.hid (hP6.out.keep hKk (fun a ha => by have := (hP6.out.ge a ha).1; omega))
  have hT7 := Lib.hid (hO6'.out.keep hKk (fun a ha => by have := (hO6'.out.ge a ha).1; omega))
  have hB7 := Lib.hid (below_keep hB6.out hKk (fun i e => by omega) hB6.out.size)
  clear hKk hE6 hg6 hT6 k101 hX6 hY6 hX5 hY5 hO5 hB5 hs5 hat6
  replace hQ6 := Lib.hid hQ6
  go_upto_region 16 with fail
  clear o101 z101 hQ6 hB6 hP6 hO6'
  generalize w6.setCell ⟨w.heap.size + 2, 101, none⟩ (.slice A6 m.text.length c6) = W7 at hO7 hY7 hP7 hT7 hB7 ⊢
  obtain ⟨E, hE⟩ : ∃ E, W7.heap[w.heap.size + 2]? = some (.cells E 36 (0, 0)) ∧ MsgC E (usedM m) (.slice A4 m.list.length c4) (.slice A6 m.text.length c6) := ⟨_, hO7.out, by rw [hu.out]; exact hD2.out⟩
  have hif : (Tryd.prog.info? 36).map (·.size) = some E.size := by rw [hE.2.size]; kernel_rfl
  have hzD : Tryd.zeroCells36.size = E.size := by rw [hE.2.size]; exact zC_size
  have hone := hE.2.one rfl rfl
  have rE := Lib.hid (rowAt_all hE.1)
  have hKy := setRow_keep W7 (w.heap.size + 1) E
  have hYz := setRow_heap W7 (w.heap.size + 1) _ E _ _ hY7.out
  have hBz := below_keep hB7.out hKy (fun i e => by omega) hB7.out.size
  have hKy' := hKy
  replace hE := Lib.hid hE
  go_wp2_with (first | (refine wpList_loadM _ rfl _ _ rfl (w.heap.size + 2) 0 rfl E rE.out _ Tryd.underlying36 rfl hif ?_) | (refine wpList_storeW _ rfl _ _ _ rfl (w.heap.size + 1) E rfl rfl _ _ hY7.out hif hzD hone ?_))
  have hL := run_loadVar_row (P := Tryd.prog) _ (w.heap.size + 1) 36 36 E (0, 0) _ hYz Tryd.underlying36 rfl hif
  have hul : (usedM m).list = m.list ∧ (usedM m).text = m.text := by rw [hu.out]; exact ⟨rfl, rfl⟩
  have hfin := hE.out.2
  have hPz := hP7.out.keep hKy' (fun a ha => by have := (hP7.out.ge a ha).1; omega)
  have hTz := hT7.out.keep hKy' (fun a ha => by have := (hT7.out.ge a ha).1; omega)
  refine bodyPost_ret (v := .agg E) (results_cell1 rfl _ _ ⟨w.heap.size + 1, 0, none⟩ (.agg E) rfl hL) rfl ⟨E, A4, c4, A6, c6, rfl, ⟨?_, ?_, ?_, ?_, ?_, ?_, ?_, ?_⟩, hBz, (fun a ha => by have := (hPz.ge a ha).1; omega), (fun a ha => by have := (hTz.ge a ha).1; omega)⟩
  · rw [hul.1, hul.2]; exact hfin
  · rw [hul.1]; exact hPz.cap
  · rw [hul.2]; exact hcapB hTz
  · rw [hul.1]; exact hPz.pairs hpk.out
  · rw [hul.2]; exact hTz.bs
  · rw [hul.1]; exact PairsOk.of hpk.out
  · rw [hul.1]; omega
  · rw [hul.2]; omega


theorem faultM_bd {m : Msg} (hf : faultM m = none) : m.kind = 3 → m.list.length ≤ 255 ∧ m.text.length ≤ 1048575 := fun h3 => by
  unfold faultM at hf
  by_cases c1 : ¬ (1 ≤ m.kind ∧ m.kind ≤ 6)
  · rw [if_pos c1] at hf; cases hf
  by_cases c2 : ¬ (0 ≤ m.from_ ∧ m.from_ ≤ 255)
  · rw [if_neg c1, if_pos c2] at hf; cases hf
  by_cases c3 : ¬ (0 ≤ m.to_ ∧ m.to_ ≤ 255)
  · rw [if_neg c1, if_neg c2, if_pos c3] at hf; cases hf
  rw [if_neg c1, if_neg c2, if_neg c3, if_neg (by omega), if_pos h3] at hf
  split at hf; · cases hf
  split at hf; · cases hf
  split at hf; · cases hf
  omega
theorem used_any (c1 : Array Value) (m : Msg) (LA : Option Addr) (lc : Nat) (TA : Option Addr) (tc : Nat) (w : World) (hM : MsgIn w c1 m LA lc TA tc) (hf : faultM m = none) : Calls Tryd.prog 54 #[.agg c1] w fun e w' => UsedPost w m e w' := by
  have hk := faultM_kind hf
  have hd : m.kind = 1 ∨ m.kind = 2 ∨ m.kind = 3 ∨ m.kind = 4 ∨ m.kind = 5 ∨ m.kind = 6 := by omega
  rcases hd with h | h | h | h | h | h
  · exact used_1 c1 m LA lc TA tc w hM h
  · exact used_2 c1 m LA lc TA tc w hM h
  · exact used_3 c1 m LA lc TA tc w hM h (faultM_bd hf)
  · exact used_4 c1 m LA lc TA tc w hM h
  · exact used_5 c1 m LA lc TA tc w hM h
  · exact used_6 c1 m LA lc TA tc w hM h
end Go.Proofs.YtmnmmabhmedioaaDoor
/- Wire: plain law: two messages have one frame just where they use the same. -/
namespace Go.Proofs.YtmnmmabhmedioaaDoor
open Go.RowKit
set_option linter.unusedVariables false
set_option linter.unusedSimpArgs false

/-- A message's rows have their lengths. -/
structure MsgOk (m : Msg) : Prop where
  session : m.session.length = 32
  pair : PairOk m.pair
  list : ∀ p ∈ m.list, PairOk p
  bind_ : m.bind_.length = 32
  share : m.share.length = 32
  sig : m.sig.length = 64
theorem MsgIn.ok {w : World} {cs : Array Value} {m : Msg} {LA : Option Addr} {lc : Nat} {TA : Option Addr} {tc : Nat} (h : MsgIn w cs m LA lc TA tc) : MsgOk m :=
  ⟨h.cells.session.1, ⟨h.cells.hid.1, h.cells.bnd.1⟩, PairsOk.mem h.pok, h.cells.bind_.1, h.cells.share.1, h.cells.sig.1⟩
theorem u8_inj {x y : Int} (hx : 0 ≤ x) (hx2 : x ≤ 255) (hy : 0 ≤ y) (hy2 : y ≤ 255) (h : u8 x = u8 y) : x = y := by
  have h1 := nb_u8 hx
  have h2 := nb_u8 hy
  rw [h, h2] at h1
  omega
theorem pairL_inj {p q : Pair} (hp : PairOk p) (hq : PairOk q) (ip : isId p.id = true) (iq : isId q.id = true) {r s : List UInt8} (h : pairL p ++ r = pairL q ++ s) : p = q ∧ r = s := by
  obtain ⟨pi, ph, pb⟩ := p
  obtain ⟨qi, qh, qb⟩ := q
  have hl : (pairL ⟨pi, ph, pb⟩).length = (pairL ⟨qi, qh, qb⟩).length := by rw [pairL_len hp, pairL_len hq]
  obtain ⟨h1, h2⟩ := List.append_inj h hl
  simp only [pairL, List.cons.injEq] at h1
  obtain ⟨h3, h4⟩ := h1
  obtain ⟨h5, h6⟩ := List.append_inj h4 (by rw [hp.1, hq.1])
  have a : 1 ≤ pi ∧ pi ≤ 255 := isId_true.1 ip
  have b : 1 ≤ qi ∧ qi ≤ 255 := isId_true.1 iq
  have h7 := u8_inj (x := pi) (y := qi) (by omega) (by omega) (by omega) (by omega) h3
  exact ⟨by rw [h5, h6, h7], h2⟩
theorem pairsL_inj : ∀ (ps qs : List Pair) (r s : List UInt8), ps.length = qs.length → (∀ p ∈ ps, PairOk p ∧ isId p.id = true) → (∀ p ∈ qs, PairOk p ∧ isId p.id = true) → pairsL ps ++ r = pairsL qs ++ s → ps = qs ∧ r = s
  | [], [], r, s, _, _, _, h => ⟨rfl, by simpa [pairsL] using h⟩
  | [], q :: qs, r, s, hl, _, _, _ => by simp at hl
  | p :: ps, [], r, s, hl, _, _, _ => by simp at hl
  | p :: ps, q :: qs, r, s, hl, hp, hq, h => by
    have h' : pairL p ++ (pairsL ps ++ r) = pairL q ++ (pairsL qs ++ s) := by simpa [pairsL] using h
    obtain ⟨h1, h2⟩ := pairL_inj (hp p (by simp)).1 (hq q (by simp)).1 (hp p (by simp)).2 (hq q (by simp)).2 h'
    obtain ⟨h3, h4⟩ := pairsL_inj ps qs r s (by simpa using hl) (fun x hx => hp x (by simp [hx])) (fun x hx => hq x (by simp [hx])) h2
    exact ⟨by rw [h1, h3], h4⟩
theorem four_inj {a b : Nat} (ha : a < 4294967296) (hb : b < 4294967296) (h : four a = four b) : a = b := by
  rw [← numL_four a ha, ← numL_four b hb, h]
theorem two_inj {a b : Nat} (ha : a < 65536) (hb : b < 65536) (h : two a = two b) : a = b := by
  rw [← numL_two a ha, ← numL_two b hb, h]

/-- What is known of a message that may be. -/
structure MayBe (m : Msg) : Prop where
  k1 : 1 ≤ m.kind
  k6 : m.kind ≤ 6
  f0 : 0 ≤ m.from_
  f1 : m.from_ ≤ 255
  t0 : 0 ≤ m.to_
  t1 : m.to_ ≤ 255
  pid : m.kind = 2 ∨ m.kind = 4 → isId m.pair.id = true
  lst : m.kind = 3 → m.list.length ≤ 255 ∧ m.text.length ≤ 1048575 ∧ ∀ p ∈ m.list, isId p.id = true
  cod : m.kind = 5 → 1 ≤ m.code ∧ m.code ≤ 65535
theorem mayBe {m : Msg} (hf : faultM m = none) : MayBe m := by
  unfold faultM at hf
  by_cases c1 : ¬ (1 ≤ m.kind ∧ m.kind ≤ 6)
  · rw [if_pos c1] at hf; cases hf
  by_cases c2 : ¬ (0 ≤ m.from_ ∧ m.from_ ≤ 255)
  · rw [if_neg c1, if_pos c2] at hf; cases hf
  by_cases c3 : ¬ (0 ≤ m.to_ ∧ m.to_ ≤ 255)
  · rw [if_neg c1, if_neg c2, if_pos c3] at hf; cases hf
  rw [if_neg c1, if_neg c2, if_neg c3] at hf
  refine ⟨by omega, by omega, by omega, by omega, by omega, by omega, fun h => ?_, fun h => ?_, fun h => ?_⟩
  · rw [if_pos h] at hf
    split at hf
    · assumption
    · cases hf
  · rw [if_neg (by omega), if_pos h] at hf
    split at hf; · cases hf
    cases hb : listBad 0 m.list with
    | some i => rw [hb] at hf; cases hf
    | none =>
      rw [hb] at hf
      simp only at hf
      split at hf; · cases hf
      refine ⟨by omega, by omega, fun p hp => ?_⟩
      obtain ⟨i, hi, rfl⟩ := List.mem_iff_getElem.1 hp
      have := listBad_none m.list 0 hb i hi
      rwa [List.getD_eq_getElem?_getD, List.getElem?_eq_getElem hi] at this
  · rw [if_neg (by omega), if_neg (by omega), if_pos h] at hf
    split at hf
    · assumption
    · cases hf

theorem bodyM_used {m : Msg} : bodyM (usedM m) = bodyM m ∧ (usedM m).kind = m.kind := by
  unfold usedM
  by_cases h2 : m.kind = 2
  · simp [h2, baseM, bodyM, restM]
  by_cases h3 : m.kind = 3
  · simp [h3, baseM, bodyM, restM]
  by_cases h4 : m.kind = 4
  · simp [h4, baseM, bodyM, restM]
  by_cases h5 : m.kind = 5
  · simp [h5, baseM, bodyM, restM]
  by_cases h6 : m.kind = 6
  · simp [h6, baseM, bodyM, restM]
  simp [h2, h3, h4, h5, h6, baseM, bodyM, restM]
theorem frame_parts {k1 k2 : UInt8} {b1 b2 : List UInt8} (h1 : b1.length < 4294967296) (h2 : b2.length < 4294967296) (h : frameL k1 b1 = frameL k2 b2) : k1 = k2 ∧ b1 = b2 := by
  have e1 : frameL k1 b1 = 82 :: 73 :: 77 :: 69 :: 1 :: k1 :: (four b1.length ++ (b1 ++ (sha (preL k1 b1)).take 4)) := by simp [frameL, preL]
  have e2 : frameL k2 b2 = 82 :: 73 :: 77 :: 69 :: 1 :: k2 :: (four b2.length ++ (b2 ++ (sha (preL k2 b2)).take 4)) := by simp [frameL, preL]
  rw [e1, e2] at h
  simp only [List.cons.injEq, true_and] at h
  obtain ⟨hk, hr⟩ := h
  obtain ⟨h3, h4⟩ := List.append_inj hr rfl
  exact ⟨hk, (List.append_inj h4 (four_inj h1 h2 h3)).1⟩
theorem used_of_body {m n : Msg} (om : MsgOk m) (on : MsgOk n) (am : MayBe m) (an : MayBe n) (hk : m.kind = n.kind) (hb : bodyM m = bodyM n) : usedM m = usedM n := by
  unfold bodyM at hb
  rw [List.append_assoc, List.append_assoc] at hb
  obtain ⟨h1, h2⟩ := List.append_inj hb (by rw [om.session, on.session])
  obtain ⟨h3, h4⟩ := List.append_inj h2 rfl
  simp only [List.cons.injEq, and_true] at h3
  have h5 := u8_inj am.f0 am.f1 an.f0 an.f1 h3.1
  have h6 := u8_inj am.t0 am.t1 an.t0 an.t1 h3.2
  have hbase : baseM m = baseM n := by simp [baseM, hk, h1, h5, h6]
  unfold restM at h4
  unfold usedM
  by_cases k2 : m.kind = 2
  · have k2' : n.kind = 2 := by omega
    rw [if_pos k2, if_pos k2'] at h4 ⊢
    have h7 := (pairL_inj (r := []) (s := []) om.pair on.pair (am.pid (.inl k2)) (an.pid (.inl k2')) (by simpa using h4)).1
    rw [hbase, h7]
  have k2' : ¬ n.kind = 2 := by omega
  rw [if_neg k2, if_neg k2'] at h4 ⊢
  by_cases k3 : m.kind = 3
  · have k3' : n.kind = 3 := by omega
    rw [if_pos k3, if_pos k3'] at h4 ⊢
    obtain ⟨a1, a2, a3⟩ := am.lst k3
    obtain ⟨b1, b2, b3⟩ := an.lst k3'
    simp only [List.cons_append, List.nil_append, List.append_assoc, List.cons.injEq] at h4
    obtain ⟨h7, h8⟩ := h4
    have h9 : m.list.length = n.list.length := by
      have e := congrArg UInt8.toNat h7
      simp only [UInt8.toNat_ofNat'] at e
      omega
    obtain ⟨h10, h11⟩ := pairsL_inj m.list n.list _ _ h9 (fun p hp => ⟨om.list p hp, a3 p hp⟩) (fun p hp => ⟨on.list p hp, b3 p hp⟩) h8
    have h12 := (List.append_inj h11 rfl).2
    rw [hbase, h10, h12]
  have k3' : ¬ n.kind = 3 := by omega
  rw [if_neg k3, if_neg k3'] at h4 ⊢
  by_cases k4 : m.kind = 4
  · have k4' : n.kind = 4 := by omega
    rw [if_pos k4, if_pos k4'] at h4 ⊢
    rw [List.append_assoc, List.append_assoc] at h4
    obtain ⟨h7, h8⟩ := pairL_inj om.pair on.pair (am.pid (.inr k4)) (an.pid (.inr k4')) h4
    obtain ⟨h9, h10⟩ := List.append_inj h8 (by rw [om.bind_, on.bind_])
    rw [hbase, h7, h9, h10]
  have k4' : ¬ n.kind = 4 := by omega
  rw [if_neg k4, if_neg k4'] at h4 ⊢
  by_cases k5 : m.kind = 5
  · have k5' : n.kind = 5 := by omega
    rw [if_pos k5, if_pos k5'] at h4 ⊢
    have a := am.cod k5
    have b := an.cod k5'
    have h7 := two_inj (by omega) (by omega) h4
    have h8 : m.code = n.code := by omega
    rw [hbase, h8]
  have k5' : ¬ n.kind = 5 := by omega
  rw [if_neg k5, if_neg k5'] at h4 ⊢
  by_cases k6 : m.kind = 6
  · have k6' : n.kind = 6 := by omega
    rw [if_pos k6, if_pos k6'] at h4 ⊢
    rw [hbase, h4]
  have k6' : ¬ n.kind = 6 := by omega
  rw [if_neg k6, if_neg k6'] at ⊢
  exact hbase
/-- One frame just where the same is used. -/
theorem frames_iff {m n : Msg} (om : MsgOk m) (on : MsgOk n) (hf : faultM m = none) (hg : faultM n = none) (lm : (bodyM m).length ≤ 1065189) (ln : (bodyM n).length ≤ 1065189) :
    frameL (u8 m.kind) (bodyM m) = frameL (u8 n.kind) (bodyM n) ↔ usedM m = usedM n := by
  have am := mayBe hf
  have an := mayBe hg
  constructor
  · intro h
    obtain ⟨h1, h2⟩ := frame_parts (by omega) (by omega) h
    have a := am.k1
    have b := am.k6
    have c := an.k1
    have d := an.k6
    exact used_of_body om on am an (u8_inj (by omega) (by omega) (by omega) (by omega) h1) h2
  · intro h
    have h1 := bodyM_used (m := m)
    have h2 := bodyM_used (m := n)
    rw [← h1.1, ← h1.2, h, h2.1, h2.2]
end Go.Proofs.YtmnmmabhmedioaaDoor
/- Wire: what Decode answers, in plain Lean. -/
namespace Go.Proofs.YtmnmmabhmedioaaDoor
set_option linter.unusedVariables false
set_option linter.unusedSimpArgs false

def kMagic : List UInt8 := [109, 97, 103, 105, 99]
def kVersion : List UInt8 := [118, 101, 114, 115, 105, 111, 110]
def kLength : List UInt8 := [108, 101, 110, 103, 116, 104]
def kSession : List UInt8 := [115, 101, 115, 115, 105, 111, 110]
def kBind : List UInt8 := [98, 105, 110, 100]
def kShare : List UInt8 := [115, 104, 97, 114, 101]
def kSig : List UInt8 := [115, 105, 103]

/-- The bytes of a list from a place on. -/
def segL (l : List UInt8) (at_ n : Nat) : List UInt8 := (l.drop at_).take n
theorem segL_len {l : List UInt8} {at_ n : Nat} (h : at_ + n ≤ l.length) : (segL l at_ n).length = n := by simp [segL]; omega

/-- The first fault of a frame's head. -/
def peekBad (l : List UInt8) : Option FD :=
  if l.length ≤ 0 then some ⟨kFrame, l.length, 3⟩
  else if l.getD 0 0 ≠ 82 then some ⟨kMagic, 0, 101⟩
  else if l.length ≤ 1 then some ⟨kFrame, l.length, 3⟩
  else if l.getD 1 0 ≠ 73 then some ⟨kMagic, 1, 101⟩
  else if l.length ≤ 2 then some ⟨kFrame, l.length, 3⟩
  else if l.getD 2 0 ≠ 77 then some ⟨kMagic, 2, 101⟩
  else if l.length ≤ 3 then some ⟨kFrame, l.length, 3⟩
  else if l.getD 3 0 ≠ 69 then some ⟨kMagic, 3, 101⟩
  else if l.length ≤ 4 then some ⟨kFrame, l.length, 3⟩
  else if l.getD 4 0 ≠ 1 then some ⟨kVersion, 4, 102⟩
  else if l.length ≤ 5 then some ⟨kFrame, l.length, 3⟩
  else if ¬ (1 ≤ nb (l.getD 5 0) ∧ nb (l.getD 5 0) ≤ 6) then some ⟨kKind, 5, 152⟩
  else if l.length < 10 then some ⟨kFrame, l.length, 3⟩
  else if 1065189 < numL (segL l 6 4) then some ⟨kLength, 6, 10⟩
  else none
/-- The whole frame's length, by its head. -/
def peekLen (l : List UInt8) : Nat := 14 + numL (segL l 6 4)

/-- What Decode answers. -/
inductive DR where
  | bad (f : FD)
  | ok (m : Msg)
def pairOf (l : List UInt8) : Pair := ⟨nb (l.getD 0 0), segL l 1 32, segL l 33 32⟩
def takeF (F field : List UInt8) (from_ at_ n : Nat) (k : List UInt8 → DR) : DR := if F.length < at_ + n then .bad ⟨field, from_, 3⟩ else k (segL F at_ n)
def pairF (F field : List UInt8) (at_ : Nat) (k : Pair → DR) : DR := if F.length < at_ + 65 then .bad ⟨field, at_, 3⟩ else if F.getD at_ 0 = 0 then .bad ⟨field, at_, 4⟩ else k (pairOf (segL F at_ 65))
def tailF (F : List UInt8) (at_ : Nat) (m : Msg) : DR := if at_ = F.length then .ok m else .bad ⟨kTail, at_, 104⟩
def listF (F : List UInt8) : Nat → Nat → List Pair → (Nat → List Pair → DR) → DR
  | 0, at_, ps, k => k at_ ps
  | n + 1, at_, ps, k => pairF F kList at_ fun p => listF F n (at_ + 65) (ps ++ [p]) k
def textF (F : List UInt8) (at_ : Nat) (k : Nat → List UInt8 → DR) : DR :=
  takeF F kText at_ at_ 4 fun s => if 1048575 < numL s then .bad ⟨kText, at_, 10⟩ else takeF F kText at_ (at_ + 4) (numL s) fun x => k (at_ + 4 + numL s) x
def restF (F : List UInt8) (kd : Int) (m : Msg) : DR :=
  if kd = 2 then pairF F kPair 44 fun p => tailF F 109 { m with pair := p }
  else if kd = 3 then takeF F kList 44 44 1 fun k => listF F (k.getD 0 0).toNat 45 [] fun at_ ps => textF F at_ fun e2 x => tailF F e2 { m with list := ps, text := x }
  else if kd = 4 then pairF F kPair 44 fun p => takeF F kBind 109 109 32 fun x => takeF F kShare 141 141 32 fun y => tailF F 173 { m with pair := p, bind_ := x, share := y }
  else if kd = 5 then takeF F kCode 44 44 2 fun x => if numL x = 0 then .bad ⟨kCode, 44, 1⟩ else tailF F 46 { m with code := numL x }
  else if kd = 6 then takeF F kSig 44 44 64 fun x => tailF F 108 { m with sig := x }
  else tailF F 44 m
/-- A body in a right frame; F: the frame without its sum. -/
def bodyF (kd : UInt8) (F : List UInt8) : DR :=
  takeF F kSession 10 10 32 fun s => takeF F kFrom 42 42 1 fun f => takeF F kTo 43 43 1 fun t =>
    restF F (nb kd) { zM with kind := nb kd, session := s, from_ := nb (f.getD 0 0), to_ := nb (t.getD 0 0) }
/-- What Decode answers to any bytes. -/
def decF (l : List UInt8) : DR :=
  match peekBad l with
  | some f => .bad f
  | none =>
    if l.length < peekLen l then .bad ⟨kFrame, l.length, 3⟩
    else if peekLen l < l.length then .bad ⟨kTail, peekLen l, 104⟩
    else if (sha (l.take (l.length - 4))).take 4 ≠ l.drop (l.length - 4) then .bad ⟨kSum, (l.length - 4 : Nat), 103⟩
    else bodyF (l.getD 5 0) (l.take (l.length - 4))

theorem headL_of {l : List UInt8} (h : peekBad l = none) : l = headL (l.getD 5 0) (segL l 6 4) (l.drop 10) ∧ 10 ≤ l.length ∧ 1 ≤ nb (l.getD 5 0) ∧ nb (l.getD 5 0) ≤ 6 ∧ numL (segL l 6 4) ≤ 1065189 := by
  unfold peekBad at h
  by_cases h0 : l.length ≤ 0
  · rw [if_pos h0] at h; cases h
  rw [if_neg h0] at h
  by_cases h1 : l.getD 0 0 ≠ 82
  · rw [if_pos h1] at h; cases h
  rw [if_neg h1] at h
  by_cases h2 : l.length ≤ 1
  · rw [if_pos h2] at h; cases h
  rw [if_neg h2] at h
  by_cases h3 : l.getD 1 0 ≠ 73
  · rw [if_pos h3] at h; cases h
  rw [if_neg h3] at h
  by_cases h4 : l.length ≤ 2
  · rw [if_pos h4] at h; cases h
  rw [if_neg h4] at h
  by_cases h5 : l.getD 2 0 ≠ 77
  · rw [if_pos h5] at h; cases h
  rw [if_neg h5] at h
  by_cases h6 : l.length ≤ 3
  · rw [if_pos h6] at h; cases h
  rw [if_neg h6] at h
  by_cases h7 : l.getD 3 0 ≠ 69
  · rw [if_pos h7] at h; cases h
  rw [if_neg h7] at h
  by_cases h8 : l.length ≤ 4
  · rw [if_pos h8] at h; cases h
  rw [if_neg h8] at h
  by_cases h9 : l.getD 4 0 ≠ 1
  · rw [if_pos h9] at h; cases h
  rw [if_neg h9] at h
  by_cases h10a : l.length ≤ 5
  · rw [if_pos h10a] at h; cases h
  rw [if_neg h10a] at h
  by_cases h11 : ¬ (1 ≤ nb (l.getD 5 0) ∧ nb (l.getD 5 0) ≤ 6)
  · rw [if_pos h11] at h; cases h
  rw [if_neg h11] at h
  by_cases h12 : l.length < 10
  · rw [if_pos h12] at h; cases h
  rw [if_neg h12] at h
  by_cases h13 : 1065189 < numL (segL l 6 4)
  · rw [if_pos h13] at h; cases h
  rw [if_neg h13] at h
  rw [Classical.not_not] at h1 h3 h5 h7 h9 h11
  refine ⟨?_, by omega, h11.1, h11.2, by omega⟩
  have h10 : 10 ≤ l.length := by omega
  clear h h0 h2 h4 h6 h8 h11 h12 h13
  match l, h10 with
  | a0 :: a1 :: a2 :: a3 :: a4 :: a5 :: a6 :: a7 :: a8 :: a9 :: r, _ =>
    simp only [List.getD_cons_zero, List.getD_cons_succ] at h1 h3 h5 h7 h9 ⊢
    subst h1 h3 h5 h7 h9
    simp [headL, segL]
  | [], h => simp at h
  | [a0], h => simp at h
  | [a0, a1], h => simp at h
  | [a0, a1, a2], h => simp at h
  | [a0, a1, a2, a3], h => simp at h
  | [a0, a1, a2, a3, a4], h => simp at h
  | [a0, a1, a2, a3, a4, a5], h => simp at h
  | [a0, a1, a2, a3, a4, a5, a6], h => simp at h
  | [a0, a1, a2, a3, a4, a5, a6, a7], h => simp at h
  | [a0, a1, a2, a3, a4, a5, a6, a7, a8], h => simp at h
end Go.Proofs.YtmnmmabhmedioaaDoor
/- Wire: a frame that is cut within its head. (Printed by gen_short.py.) -/
namespace Go.Proofs.YtmnmmabhmedioaaDoor
open Go.RowKit
set_option linter.unusedVariables false
set_option linter.unusedSimpArgs false
set_option maxRecDepth 100000

abbrev Short (w : World) (k : Int) (e : Ending) (w' : World) : Prop := ∃ q, e = Threw q ∧ w.heap.size ≤ q ∧ FaultAt w' q ⟨kFrame, k, 3⟩ ∧ Below w.heap.size w w'

set_option maxHeartbeats 8000000 in
theorem peek_s0 (b o c : Nat) (kd : UInt8) (w : World) (hk1 : 1 ≤ nb kd) (hk6 : nb kd ≤ 6) (hc : 10 ≤ c) :
    Calls Tryd.prog 37 #[.slice (some ⟨b, o, none⟩) 0 c] w (Short w 0) := by
  go_enter Tryd.func37, Tryd.ntmps37
  go_wp2_with fail
  go_loopw [4, 6] (fun _ i wr => ∃ k : Nat, k ≤ 0 ∧ i = .int .i64 k ∧ ∃ m, wr = w.drewN m) (fun _ i _ => 4 - (intOf i).toNat)
  case atStart => exact ⟨0, by omega, rfl, 0, rfl⟩
  case round =>
    obtain ⟨j, hj, rfl, m, hwr⟩ := hrel
    have hBr : Hid (Below w.heap.size w wr) := Lib.hid (by rw [hwr]; exact below_drewN (Below.refl _ _) m)
    replace hwr := Lib.hid hwr
    obtain rfl : j = 0 := by omega
    rw [show ((0 : Nat) : Int) = 0 from rfl]
    go_wp2_with fail
    refine (need_false kFrame 0 3 _).mono ?_
    rintro e w2 ⟨q, rfl, hq, hF, hB2⟩
    have hB3 := Lib.hid (later' hBr.out hB2 hBr.out.size)
    have hq2 : w.heap.size ≤ q := Nat.le_trans hBr.out.size hq
    replace hF := Lib.hid hF
    clear hBr hB2
    go_wp2_with fail
    exact ⟨rfl, q, rfl, hq2, hF.out, hB3.out⟩

set_option maxHeartbeats 8000000 in
theorem peek_s1 (b o c : Nat) (kd : UInt8) (w : World) (hk1 : 1 ≤ nb kd) (hk6 : nb kd ≤ 6) (hc : 10 ≤ c) (x0 : w.cell? ⟨b, o, none⟩ = some (.int .u8 82)) :
    Calls Tryd.prog 37 #[.slice (some ⟨b, o, none⟩) 1 c] w (Short w 1) := by
  go_enter Tryd.func37, Tryd.ntmps37
  go_wp2_with fail
  go_loopw [4, 6] (fun _ i wr => ∃ k : Nat, k ≤ 1 ∧ i = .int .i64 k ∧ ∃ m, wr = w.drewN m) (fun _ i _ => 4 - (intOf i).toNat)
  case atStart => exact ⟨0, by omega, rfl, 0, rfl⟩
  case round =>
    obtain ⟨j, hj, rfl, m, hwr⟩ := hrel
    have y0 : wr.cell? ⟨b, o, none⟩ = some (.int .u8 82) := by rw [hwr]; exact x0
    have hBr : Hid (Below w.heap.size w wr) := Lib.hid (by rw [hwr]; exact below_drewN (Below.refl _ _) m)
    replace hwr := Lib.hid hwr
    clear x0
    by_cases hj0 : j = 0
    · subst hj0
      rw [show ((0 : Nat) : Int) = 0 from rfl]
      go_wp2_with fail
      refine (need_same _ _ _ _).mono ?_
      rintro e w' ⟨rfl, rfl⟩
      go_wp2_with fail
      go_quiet ((go_at_call 38; exact Calls.quiet_of_same (need_same _ _ _ _)))
      go_wp2_with fail
      exact ⟨⟨1, by omega, rfl, m + nq, by rw [hwr.out, World.drewN_drewN]⟩, by simp [intOf]⟩
    obtain rfl : j = 1 := by omega
    rw [show ((1 : Nat) : Int) = 1 from rfl]
    go_wp2_with fail
    refine (need_false kFrame 1 3 _).mono ?_
    rintro e w2 ⟨q, rfl, hq, hF, hB2⟩
    have hB3 := Lib.hid (later' hBr.out hB2 hBr.out.size)
    have hq2 : w.heap.size ≤ q := Nat.le_trans hBr.out.size hq
    replace hF := Lib.hid hF
    clear hBr hB2
    go_wp2_with fail
    exact ⟨rfl, q, rfl, hq2, hF.out, hB3.out⟩

set_option maxHeartbeats 8000000 in
theorem peek_s2 (b o c : Nat) (kd : UInt8) (w : World) (hk1 : 1 ≤ nb kd) (hk6 : nb kd ≤ 6) (hc : 10 ≤ c) (x0 : w.cell? ⟨b, o, none⟩ = some (.int .u8 82)) (x1 : w.cell? ⟨b, o + 1, none⟩ = some (.int .u8 73)) :
    Calls Tryd.prog 37 #[.slice (some ⟨b, o, none⟩) 2 c] w (Short w 2) := by
  go_enter Tryd.func37, Tryd.ntmps37
  go_wp2_with fail
  go_loopw [4, 6] (fun _ i wr => ∃ k : Nat, k ≤ 2 ∧ i = .int .i64 k ∧ ∃ m, wr = w.drewN m) (fun _ i _ => 4 - (intOf i).toNat)
  case atStart => exact ⟨0, by omega, rfl, 0, rfl⟩
  case round =>
    obtain ⟨j, hj, rfl, m, hwr⟩ := hrel
    have y0 : wr.cell? ⟨b, o, none⟩ = some (.int .u8 82) := by rw [hwr]; exact x0
    have y1 : wr.cell? ⟨b, o + 1, none⟩ = some (.int .u8 73) := by rw [hwr]; exact x1
    have hBr : Hid (Below w.heap.size w wr) := Lib.hid (by rw [hwr]; exact below_drewN (Below.refl _ _) m)
    replace hwr := Lib.hid hwr
    clear x0 x1
    by_cases hj0 : j = 0
    · subst hj0
      rw [show ((0 : Nat) : Int) = 0 from rfl]
      go_wp2_with fail
      refine (need_same _ _ _ _).mono ?_
      rintro e w' ⟨rfl, rfl⟩
      go_wp2_with fail
      go_quiet ((go_at_call 38; exact Calls.quiet_of_same (need_same _ _ _ _)))
      go_wp2_with fail
      exact ⟨⟨1, by omega, rfl, m + nq, by rw [hwr.out, World.drewN_drewN]⟩, by simp [intOf]⟩
    by_cases hj1 : j = 1
    · subst hj1
      rw [show ((1 : Nat) : Int) = 1 from rfl]
      go_wp2_with fail
      refine (need_same _ _ _ _).mono ?_
      rintro e w' ⟨rfl, rfl⟩
      go_wp2_with fail
      go_quiet ((go_at_call 38; exact Calls.quiet_of_same (need_same _ _ _ _)))
      go_wp2_with fail
      exact ⟨⟨2, by omega, rfl, m + nq, by rw [hwr.out, World.drewN_drewN]⟩, by simp [intOf]⟩
    obtain rfl : j = 2 := by omega
    rw [show ((2 : Nat) : Int) = 2 from rfl]
    go_wp2_with fail
    refine (need_false kFrame 2 3 _).mono ?_
    rintro e w2 ⟨q, rfl, hq, hF, hB2⟩
    have hB3 := Lib.hid (later' hBr.out hB2 hBr.out.size)
    have hq2 : w.heap.size ≤ q := Nat.le_trans hBr.out.size hq
    replace hF := Lib.hid hF
    clear hBr hB2
    go_wp2_with fail
    exact ⟨rfl, q, rfl, hq2, hF.out, hB3.out⟩

set_option maxHeartbeats 8000000 in
theorem peek_s3 (b o c : Nat) (kd : UInt8) (w : World) (hk1 : 1 ≤ nb kd) (hk6 : nb kd ≤ 6) (hc : 10 ≤ c) (x0 : w.cell? ⟨b, o, none⟩ = some (.int .u8 82)) (x1 : w.cell? ⟨b, o + 1, none⟩ = some (.int .u8 73)) (x2 : w.cell? ⟨b, o + 2, none⟩ = some (.int .u8 77)) :
    Calls Tryd.prog 37 #[.slice (some ⟨b, o, none⟩) 3 c] w (Short w 3) := by
  go_enter Tryd.func37, Tryd.ntmps37
  go_wp2_with fail
  go_loopw [4, 6] (fun _ i wr => ∃ k : Nat, k ≤ 3 ∧ i = .int .i64 k ∧ ∃ m, wr = w.drewN m) (fun _ i _ => 4 - (intOf i).toNat)
  case atStart => exact ⟨0, by omega, rfl, 0, rfl⟩
  case round =>
    obtain ⟨j, hj, rfl, m, hwr⟩ := hrel
    have y0 : wr.cell? ⟨b, o, none⟩ = some (.int .u8 82) := by rw [hwr]; exact x0
    have y1 : wr.cell? ⟨b, o + 1, none⟩ = some (.int .u8 73) := by rw [hwr]; exact x1
    have y2 : wr.cell? ⟨b, o + 2, none⟩ = some (.int .u8 77) := by rw [hwr]; exact x2
    have hBr : Hid (Below w.heap.size w wr) := Lib.hid (by rw [hwr]; exact below_drewN (Below.refl _ _) m)
    replace hwr := Lib.hid hwr
    clear x0 x1 x2
    by_cases hj0 : j = 0
    · subst hj0
      rw [show ((0 : Nat) : Int) = 0 from rfl]
      go_wp2_with fail
      refine (need_same _ _ _ _).mono ?_
      rintro e w' ⟨rfl, rfl⟩
      go_wp2_with fail
      go_quiet ((go_at_call 38; exact Calls.quiet_of_same (need_same _ _ _ _)))
      go_wp2_with fail
      exact ⟨⟨1, by omega, rfl, m + nq, by rw [hwr.out, World.drewN_drewN]⟩, by simp [intOf]⟩
    by_cases hj1 : j = 1
    · subst hj1
      rw [show ((1 : Nat) : Int) = 1 from rfl]
      go_wp2_with fail
      refine (need_same _ _ _ _).mono ?_
      rintro e w' ⟨rfl, rfl⟩
      go_wp2_with fail
      go_quiet ((go_at_call 38; exact Calls.quiet_of_same (need_same _ _ _ _)))
      go_wp2_with fail
      exact ⟨⟨2, by omega, rfl, m + nq, by rw [hwr.out, World.drewN_drewN]⟩, by simp [intOf]⟩
    by_cases hj2 : j = 2
    · subst hj2
      rw [show ((2 : Nat) : Int) = 2 from rfl]
      go_wp2_with fail
      refine (need_same _ _ _ _).mono ?_
      rintro e w' ⟨rfl, rfl⟩
      go_wp2_with fail
      go_quiet ((go_at_call 38; exact Calls.quiet_of_same (need_same _ _ _ _)))
      go_wp2_with fail
      exact ⟨⟨3, by omega, rfl, m + nq, by rw [hwr.out, World.drewN_drewN]⟩, by simp [intOf]⟩
    obtain rfl : j = 3 := by omega
    rw [show ((3 : Nat) : Int) = 3 from rfl]
    go_wp2_with fail
    refine (need_false kFrame 3 3 _).mono ?_
    rintro e w2 ⟨q, rfl, hq, hF, hB2⟩
    have hB3 := Lib.hid (later' hBr.out hB2 hBr.out.size)
    have hq2 : w.heap.size ≤ q := Nat.le_trans hBr.out.size hq
    replace hF := Lib.hid hF
    clear hBr hB2
    go_wp2_with fail
    exact ⟨rfl, q, rfl, hq2, hF.out, hB3.out⟩

set_option maxHeartbeats 8000000 in
theorem peek_s4 (b o c : Nat) (kd : UInt8) (w : World) (hk1 : 1 ≤ nb kd) (hk6 : nb kd ≤ 6) (hc : 10 ≤ c) (x0 : w.cell? ⟨b, o, none⟩ = some (.int .u8 82)) (x1 : w.cell? ⟨b, o + 1, none⟩ = some (.int .u8 73)) (x2 : w.cell? ⟨b, o + 2, none⟩ = some (.int .u8 77)) (x3 : w.cell? ⟨b, o + 3, none⟩ = some (.int .u8 69)) :
    Calls Tryd.prog 37 #[.slice (some ⟨b, o, none⟩) 4 c] w (Short w 4) := by
  go_enter Tryd.func37, Tryd.ntmps37
  go_wp2_with fail
  go_loopw [4, 6] (fun _ i wr => ∃ k : Nat, k ≤ 4 ∧ i = .int .i64 k ∧ ∃ m, wr = w.drewN m) (fun _ i _ => 4 - (intOf i).toNat)
  case atStart => exact ⟨0, by omega, rfl, 0, rfl⟩
  case round =>
    obtain ⟨j, hj, rfl, m, hwr⟩ := hrel
    have y0 : wr.cell? ⟨b, o, none⟩ = some (.int .u8 82) := by rw [hwr]; exact x0
    have y1 : wr.cell? ⟨b, o + 1, none⟩ = some (.int .u8 73) := by rw [hwr]; exact x1
    have y2 : wr.cell? ⟨b, o + 2, none⟩ = some (.int .u8 77) := by rw [hwr]; exact x2
    have y3 : wr.cell? ⟨b, o + 3, none⟩ = some (.int .u8 69) := by rw [hwr]; exact x3
    have hBr : Hid (Below w.heap.size w wr) := Lib.hid (by rw [hwr]; exact below_drewN (Below.refl _ _) m)
    replace hwr := Lib.hid hwr
    clear x0 x1 x2 x3
    by_cases hj0 : j = 0
    · subst hj0
      rw [show ((0 : Nat) : Int) = 0 from rfl]
      go_wp2_with fail
      refine (need_same _ _ _ _).mono ?_
      rintro e w' ⟨rfl, rfl⟩
      go_wp2_with fail
      go_quiet ((go_at_call 38; exact Calls.quiet_of_same (need_same _ _ _ _)))
      go_wp2_with fail
      exact ⟨⟨1, by omega, rfl, m + nq, by rw [hwr.out, World.drewN_drewN]⟩, by simp [intOf]⟩
    by_cases hj1 : j = 1
    · subst hj1
      rw [show ((1 : Nat) : Int) = 1 from rfl]
      go_wp2_with fail
      refine (need_same _ _ _ _).mono ?_
      rintro e w' ⟨rfl, rfl⟩
      go_wp2_with fail
      go_quiet ((go_at_call 38; exact Calls.quiet_of_same (need_same _ _ _ _)))
      go_wp2_with fail
      exact ⟨⟨2, by omega, rfl, m + nq, by rw [hwr.out, World.drewN_drewN]⟩, by simp [intOf]⟩
    by_cases hj2 : j = 2
    · subst hj2
      rw [show ((2 : Nat) : Int) = 2 from rfl]
      go_wp2_with fail
      refine (need_same _ _ _ _).mono ?_
      rintro e w' ⟨rfl, rfl⟩
      go_wp2_with fail
      go_quiet ((go_at_call 38; exact Calls.quiet_of_same (need_same _ _ _ _)))
      go_wp2_with fail
      exact ⟨⟨3, by omega, rfl, m + nq, by rw [hwr.out, World.drewN_drewN]⟩, by simp [intOf]⟩
    by_cases hj3 : j = 3
    · subst hj3
      rw [show ((3 : Nat) : Int) = 3 from rfl]
      go_wp2_with fail
      refine (need_same _ _ _ _).mono ?_
      rintro e w' ⟨rfl, rfl⟩
      go_wp2_with fail
      go_quiet ((go_at_call 38; exact Calls.quiet_of_same (need_same _ _ _ _)))
      go_wp2_with fail
      exact ⟨⟨4, by omega, rfl, m + nq, by rw [hwr.out, World.drewN_drewN]⟩, by simp [intOf]⟩
    obtain rfl : j = 4 := by omega
    rw [show ((4 : Nat) : Int) = 4 from rfl]
    go_wp2_with fail
    refine (need_false kFrame 4 3 _).mono ?_
    rintro e w2 ⟨q, rfl, hq, hF, hB2⟩
    have hB3 := Lib.hid (later' hBr.out hB2 hBr.out.size)
    have hq2 : w.heap.size ≤ q := Nat.le_trans hBr.out.size hq
    replace hF := Lib.hid hF
    clear hBr hB2
    go_wp2_with fail
    exact ⟨rfl, q, rfl, hq2, hF.out, hB3.out⟩

set_option maxHeartbeats 8000000 in
theorem peek_s5 (b o c : Nat) (kd : UInt8) (w : World) (hk1 : 1 ≤ nb kd) (hk6 : nb kd ≤ 6) (hc : 10 ≤ c) (x0 : w.cell? ⟨b, o, none⟩ = some (.int .u8 82)) (x1 : w.cell? ⟨b, o + 1, none⟩ = some (.int .u8 73)) (x2 : w.cell? ⟨b, o + 2, none⟩ = some (.int .u8 77)) (x3 : w.cell? ⟨b, o + 3, none⟩ = some (.int .u8 69)) (x4 : w.cell? ⟨b, o + 4, none⟩ = some (.int .u8 1)) :
    Calls Tryd.prog 37 #[.slice (some ⟨b, o, none⟩) 5 c] w (Short w 5) := by
  go_enter Tryd.func37, Tryd.ntmps37
  go_wp2_with fail
  go_loopw [4, 6] (fun _ i wr => ∃ k : Nat, k ≤ 4 ∧ i = .int .i64 k ∧ ∃ m, wr = w.drewN m) (fun _ i _ => 4 - (intOf i).toNat)
  case atStart => exact ⟨0, by omega, rfl, 0, rfl⟩
  case round =>
    obtain ⟨j, hj, rfl, m, hwr⟩ := hrel
    have y0 : wr.cell? ⟨b, o, none⟩ = some (.int .u8 82) := by rw [hwr]; exact x0
    have y1 : wr.cell? ⟨b, o + 1, none⟩ = some (.int .u8 73) := by rw [hwr]; exact x1
    have y2 : wr.cell? ⟨b, o + 2, none⟩ = some (.int .u8 77) := by rw [hwr]; exact x2
    have y3 : wr.cell? ⟨b, o + 3, none⟩ = some (.int .u8 69) := by rw [hwr]; exact x3
    have y4 : wr.cell? ⟨b, o + 4, none⟩ = some (.int .u8 1) := by rw [hwr]; exact x4
    have hBr : Hid (Below w.heap.size w wr) := Lib.hid (by rw [hwr]; exact below_drewN (Below.refl _ _) m)
    replace hwr := Lib.hid hwr
    clear x0 x1 x2 x3 x4
    by_cases hj0 : j = 0
    · subst hj0
      rw [show ((0 : Nat) : Int) = 0 from rfl]
      go_wp2_with fail
      refine (need_same _ _ _ _).mono ?_
      rintro e w' ⟨rfl, rfl⟩
      go_wp2_with fail
      go_quiet ((go_at_call 38; exact Calls.quiet_of_same (need_same _ _ _ _)))
      go_wp2_with fail
      exact ⟨⟨1, by omega, rfl, m + nq, by rw [hwr.out, World.drewN_drewN]⟩, by simp [intOf]⟩
    by_cases hj1 : j = 1
    · subst hj1
      rw [show ((1 : Nat) : Int) = 1 from rfl]
      go_wp2_with fail
      refine (need_same _ _ _ _).mono ?_
      rintro e w' ⟨rfl, rfl⟩
      go_wp2_with fail
      go_quiet ((go_at_call 38; exact Calls.quiet_of_same (need_same _ _ _ _)))
      go_wp2_with fail
      exact ⟨⟨2, by omega, rfl, m + nq, by rw [hwr.out, World.drewN_drewN]⟩, by simp [intOf]⟩
    by_cases hj2 : j = 2
    · subst hj2
      rw [show ((2 : Nat) : Int) = 2 from rfl]
      go_wp2_with fail
      refine (need_same _ _ _ _).mono ?_
      rintro e w' ⟨rfl, rfl⟩
      go_wp2_with fail
      go_quiet ((go_at_call 38; exact Calls.quiet_of_same (need_same _ _ _ _)))
      go_wp2_with fail
      exact ⟨⟨3, by omega, rfl, m + nq, by rw [hwr.out, World.drewN_drewN]⟩, by simp [intOf]⟩
    by_cases hj3 : j = 3
    · subst hj3
      rw [show ((3 : Nat) : Int) = 3 from rfl]
      go_wp2_with fail
      refine (need_same _ _ _ _).mono ?_
      rintro e w' ⟨rfl, rfl⟩
      go_wp2_with fail
      go_quiet ((go_at_call 38; exact Calls.quiet_of_same (need_same _ _ _ _)))
      go_wp2_with fail
      exact ⟨⟨4, by omega, rfl, m + nq, by rw [hwr.out, World.drewN_drewN]⟩, by simp [intOf]⟩
    obtain rfl : j = 4 := by omega
    rw [show ((4 : Nat) : Int) = 4 from rfl]
    go_wp2_with fail
    refine (need_same _ _ _ _).mono ?_
    rintro e w' ⟨rfl, rfl⟩
    go_wp2_with fail
    refine (need_same _ _ _ _).mono ?_
    rintro e w' ⟨rfl, rfl⟩
    go_wp2_with fail
    refine (need_false kFrame 5 3 _).mono ?_
    rintro e w2 ⟨q, rfl, hq, hF, hB2⟩
    have hB3 := Lib.hid (later' hBr.out hB2 hBr.out.size)
    have hq2 : w.heap.size ≤ q := Nat.le_trans hBr.out.size hq
    replace hF := Lib.hid hF
    clear hBr hB2
    go_wp2_with fail
    exact ⟨rfl, q, rfl, hq2, hF.out, hB3.out⟩

set_option maxHeartbeats 8000000 in
theorem peek_s6 (b o c : Nat) (kd : UInt8) (w : World) (hk1 : 1 ≤ nb kd) (hk6 : nb kd ≤ 6) (hc : 10 ≤ c) (x0 : w.cell? ⟨b, o, none⟩ = some (.int .u8 82)) (x1 : w.cell? ⟨b, o + 1, none⟩ = some (.int .u8 73)) (x2 : w.cell? ⟨b, o + 2, none⟩ = some (.int .u8 77)) (x3 : w.cell? ⟨b, o + 3, none⟩ = some (.int .u8 69)) (x4 : w.cell? ⟨b, o + 4, none⟩ = some (.int .u8 1)) (x5 : w.cell? ⟨b, o + 5, none⟩ = some (.int .u8 (nb kd))) :
    Calls Tryd.prog 37 #[.slice (some ⟨b, o, none⟩) 6 c] w (Short w 6) := by
  go_enter Tryd.func37, Tryd.ntmps37
  go_wp2_with fail
  go_loopw [4, 6] (fun _ i wr => ∃ k : Nat, k ≤ 4 ∧ i = .int .i64 k ∧ ∃ m, wr = w.drewN m) (fun _ i _ => 4 - (intOf i).toNat)
  case atStart => exact ⟨0, by omega, rfl, 0, rfl⟩
  case round =>
    obtain ⟨j, hj, rfl, m, hwr⟩ := hrel
    have y0 : wr.cell? ⟨b, o, none⟩ = some (.int .u8 82) := by rw [hwr]; exact x0
    have y1 : wr.cell? ⟨b, o + 1, none⟩ = some (.int .u8 73) := by rw [hwr]; exact x1
    have y2 : wr.cell? ⟨b, o + 2, none⟩ = some (.int .u8 77) := by rw [hwr]; exact x2
    have y3 : wr.cell? ⟨b, o + 3, none⟩ = some (.int .u8 69) := by rw [hwr]; exact x3
    have y4 : wr.cell? ⟨b, o + 4, none⟩ = some (.int .u8 1) := by rw [hwr]; exact x4
    have y5 : wr.cell? ⟨b, o + 5, none⟩ = some (.int .u8 (nb kd)) := by rw [hwr]; exact x5
    have hBr : Hid (Below w.heap.size w wr) := Lib.hid (by rw [hwr]; exact below_drewN (Below.refl _ _) m)
    replace hwr := Lib.hid hwr
    clear x0 x1 x2 x3 x4 x5
    by_cases hj0 : j = 0
    · subst hj0
      rw [show ((0 : Nat) : Int) = 0 from rfl]
      go_wp2_with fail
      refine (need_same _ _ _ _).mono ?_
      rintro e w' ⟨rfl, rfl⟩
      go_wp2_with fail
      go_quiet ((go_at_call 38; exact Calls.quiet_of_same (need_same _ _ _ _)))
      go_wp2_with fail
      exact ⟨⟨1, by omega, rfl, m + nq, by rw [hwr.out, World.drewN_drewN]⟩, by simp [intOf]⟩
    by_cases hj1 : j = 1
    · subst hj1
      rw [show ((1 : Nat) : Int) = 1 from rfl]
      go_wp2_with fail
      refine (need_same _ _ _ _).mono ?_
      rintro e w' ⟨rfl, rfl⟩
      go_wp2_with fail
      go_quiet ((go_at_call 38; exact Calls.quiet_of_same (need_same _ _ _ _)))
      go_wp2_with fail
      exact ⟨⟨2, by omega, rfl, m + nq, by rw [hwr.out, World.drewN_drewN]⟩, by simp [intOf]⟩
    by_cases hj2 : j = 2
    · subst hj2
      rw [show ((2 : Nat) : Int) = 2 from rfl]
      go_wp2_with fail
      refine (need_same _ _ _ _).mono ?_
      rintro e w' ⟨rfl, rfl⟩
      go_wp2_with fail
      go_quiet ((go_at_call 38; exact Calls.quiet_of_same (need_same _ _ _ _)))
      go_wp2_with fail
      exact ⟨⟨3, by omega, rfl, m + nq, by rw [hwr.out, World.drewN_drewN]⟩, by simp [intOf]⟩
    by_cases hj3 : j = 3
    · subst hj3
      rw [show ((3 : Nat) : Int) = 3 from rfl]
      go_wp2_with fail
      refine (need_same _ _ _ _).mono ?_
      rintro e w' ⟨rfl, rfl⟩
      go_wp2_with fail
      go_quiet ((go_at_call 38; exact Calls.quiet_of_same (need_same _ _ _ _)))
      go_wp2_with fail
      exact ⟨⟨4, by omega, rfl, m + nq, by rw [hwr.out, World.drewN_drewN]⟩, by simp [intOf]⟩
    obtain rfl : j = 4 := by omega
    rw [show ((4 : Nat) : Int) = 4 from rfl]
    go_wp2_with fail
    refine (need_same _ _ _ _).mono ?_
    rintro e w' ⟨rfl, rfl⟩
    go_wp2_with fail
    refine (need_same _ _ _ _).mono ?_
    rintro e w' ⟨rfl, rfl⟩
    go_wp2_with fail
    refine (need_same _ _ _ _).mono ?_
    rintro e w' ⟨rfl, rfl⟩
    go_wp2_with fail
    refine (need_same _ _ _ _).mono ?_
    rintro e w' ⟨rfl, rfl⟩
    go_wp2_with fail
    refine (need_false kFrame 6 3 _).mono ?_
    rintro e w2 ⟨q, rfl, hq, hF, hB2⟩
    have hB3 := Lib.hid (later' hBr.out hB2 hBr.out.size)
    have hq2 : w.heap.size ≤ q := Nat.le_trans hBr.out.size hq
    replace hF := Lib.hid hF
    clear hBr hB2
    go_wp2_with fail
    exact ⟨rfl, q, rfl, hq2, hF.out, hB3.out⟩

set_option maxHeartbeats 8000000 in
theorem peek_s7 (b o c : Nat) (kd : UInt8) (w : World) (hk1 : 1 ≤ nb kd) (hk6 : nb kd ≤ 6) (hc : 10 ≤ c) (x0 : w.cell? ⟨b, o, none⟩ = some (.int .u8 82)) (x1 : w.cell? ⟨b, o + 1, none⟩ = some (.int .u8 73)) (x2 : w.cell? ⟨b, o + 2, none⟩ = some (.int .u8 77)) (x3 : w.cell? ⟨b, o + 3, none⟩ = some (.int .u8 69)) (x4 : w.cell? ⟨b, o + 4, none⟩ = some (.int .u8 1)) (x5 : w.cell? ⟨b, o + 5, none⟩ = some (.int .u8 (nb kd))) :
    Calls Tryd.prog 37 #[.slice (some ⟨b, o, none⟩) 7 c] w (Short w 7) := by
  go_enter Tryd.func37, Tryd.ntmps37
  go_wp2_with fail
  go_loopw [4, 6] (fun _ i wr => ∃ k : Nat, k ≤ 4 ∧ i = .int .i64 k ∧ ∃ m, wr = w.drewN m) (fun _ i _ => 4 - (intOf i).toNat)
  case atStart => exact ⟨0, by omega, rfl, 0, rfl⟩
  case round =>
    obtain ⟨j, hj, rfl, m, hwr⟩ := hrel
    have y0 : wr.cell? ⟨b, o, none⟩ = some (.int .u8 82) := by rw [hwr]; exact x0
    have y1 : wr.cell? ⟨b, o + 1, none⟩ = some (.int .u8 73) := by rw [hwr]; exact x1
    have y2 : wr.cell? ⟨b, o + 2, none⟩ = some (.int .u8 77) := by rw [hwr]; exact x2
    have y3 : wr.cell? ⟨b, o + 3, none⟩ = some (.int .u8 69) := by rw [hwr]; exact x3
    have y4 : wr.cell? ⟨b, o + 4, none⟩ = some (.int .u8 1) := by rw [hwr]; exact x4
    have y5 : wr.cell? ⟨b, o + 5, none⟩ = some (.int .u8 (nb kd)) := by rw [hwr]; exact x5
    have hBr : Hid (Below w.heap.size w wr) := Lib.hid (by rw [hwr]; exact below_drewN (Below.refl _ _) m)
    replace hwr := Lib.hid hwr
    clear x0 x1 x2 x3 x4 x5
    by_cases hj0 : j = 0
    · subst hj0
      rw [show ((0 : Nat) : Int) = 0 from rfl]
      go_wp2_with fail
      refine (need_same _ _ _ _).mono ?_
      rintro e w' ⟨rfl, rfl⟩
      go_wp2_with fail
      go_quiet ((go_at_call 38; exact Calls.quiet_of_same (need_same _ _ _ _)))
      go_wp2_with fail
      exact ⟨⟨1, by omega, rfl, m + nq, by rw [hwr.out, World.drewN_drewN]⟩, by simp [intOf]⟩
    by_cases hj1 : j = 1
    · subst hj1
      rw [show ((1 : Nat) : Int) = 1 from rfl]
      go_wp2_with fail
      refine (need_same _ _ _ _).mono ?_
      rintro e w' ⟨rfl, rfl⟩
      go_wp2_with fail
      go_quiet ((go_at_call 38; exact Calls.quiet_of_same (need_same _ _ _ _)))
      go_wp2_with fail
      exact ⟨⟨2, by omega, rfl, m + nq, by rw [hwr.out, World.drewN_drewN]⟩, by simp [intOf]⟩
    by_cases hj2 : j = 2
    · subst hj2
      rw [show ((2 : Nat) : Int) = 2 from rfl]
      go_wp2_with fail
      refine (need_same _ _ _ _).mono ?_
      rintro e w' ⟨rfl, rfl⟩
      go_wp2_with fail
      go_quiet ((go_at_call 38; exact Calls.quiet_of_same (need_same _ _ _ _)))
      go_wp2_with fail
      exact ⟨⟨3, by omega, rfl, m + nq, by rw [hwr.out, World.drewN_drewN]⟩, by simp [intOf]⟩
    by_cases hj3 : j = 3
    · subst hj3
      rw [show ((3 : Nat) : Int) = 3 from rfl]
      go_wp2_with fail
      refine (need_same _ _ _ _).mono ?_
      rintro e w' ⟨rfl, rfl⟩
      go_wp2_with fail
      go_quiet ((go_at_call 38; exact Calls.quiet_of_same (need_same _ _ _ _)))
      go_wp2_with fail
      exact ⟨⟨4, by omega, rfl, m + nq, by rw [hwr.out, World.drewN_drewN]⟩, by simp [intOf]⟩
    obtain rfl : j = 4 := by omega
    rw [show ((4 : Nat) : Int) = 4 from rfl]
    go_wp2_with fail
    refine (need_same _ _ _ _).mono ?_
    rintro e w' ⟨rfl, rfl⟩
    go_wp2_with fail
    refine (need_same _ _ _ _).mono ?_
    rintro e w' ⟨rfl, rfl⟩
    go_wp2_with fail
    refine (need_same _ _ _ _).mono ?_
    rintro e w' ⟨rfl, rfl⟩
    go_wp2_with fail
    refine (need_same _ _ _ _).mono ?_
    rintro e w' ⟨rfl, rfl⟩
    go_wp2_with fail
    refine (need_false kFrame 7 3 _).mono ?_
    rintro e w2 ⟨q, rfl, hq, hF, hB2⟩
    have hB3 := Lib.hid (later' hBr.out hB2 hBr.out.size)
    have hq2 : w.heap.size ≤ q := Nat.le_trans hBr.out.size hq
    replace hF := Lib.hid hF
    clear hBr hB2
    go_wp2_with fail
    exact ⟨rfl, q, rfl, hq2, hF.out, hB3.out⟩

set_option maxHeartbeats 8000000 in
theorem peek_s8 (b o c : Nat) (kd : UInt8) (w : World) (hk1 : 1 ≤ nb kd) (hk6 : nb kd ≤ 6) (hc : 10 ≤ c) (x0 : w.cell? ⟨b, o, none⟩ = some (.int .u8 82)) (x1 : w.cell? ⟨b, o + 1, none⟩ = some (.int .u8 73)) (x2 : w.cell? ⟨b, o + 2, none⟩ = some (.int .u8 77)) (x3 : w.cell? ⟨b, o + 3, none⟩ = some (.int .u8 69)) (x4 : w.cell? ⟨b, o + 4, none⟩ = some (.int .u8 1)) (x5 : w.cell? ⟨b, o + 5, none⟩ = some (.int .u8 (nb kd))) :
    Calls Tryd.prog 37 #[.slice (some ⟨b, o, none⟩) 8 c] w (Short w 8) := by
  go_enter Tryd.func37, Tryd.ntmps37
  go_wp2_with fail
  go_loopw [4, 6] (fun _ i wr => ∃ k : Nat, k ≤ 4 ∧ i = .int .i64 k ∧ ∃ m, wr = w.drewN m) (fun _ i _ => 4 - (intOf i).toNat)
  case atStart => exact ⟨0, by omega, rfl, 0, rfl⟩
  case round =>
    obtain ⟨j, hj, rfl, m, hwr⟩ := hrel
    have y0 : wr.cell? ⟨b, o, none⟩ = some (.int .u8 82) := by rw [hwr]; exact x0
    have y1 : wr.cell? ⟨b, o + 1, none⟩ = some (.int .u8 73) := by rw [hwr]; exact x1
    have y2 : wr.cell? ⟨b, o + 2, none⟩ = some (.int .u8 77) := by rw [hwr]; exact x2
    have y3 : wr.cell? ⟨b, o + 3, none⟩ = some (.int .u8 69) := by rw [hwr]; exact x3
    have y4 : wr.cell? ⟨b, o + 4, none⟩ = some (.int .u8 1) := by rw [hwr]; exact x4
    have y5 : wr.cell? ⟨b, o + 5, none⟩ = some (.int .u8 (nb kd)) := by rw [hwr]; exact x5
    have hBr : Hid (Below w.heap.size w wr) := Lib.hid (by rw [hwr]; exact below_drewN (Below.refl _ _) m)
    replace hwr := Lib.hid hwr
    clear x0 x1 x2 x3 x4 x5
    by_cases hj0 : j = 0
    · subst hj0
      rw [show ((0 : Nat) : Int) = 0 from rfl]
      go_wp2_with fail
      refine (need_same _ _ _ _).mono ?_
      rintro e w' ⟨rfl, rfl⟩
      go_wp2_with fail
      go_quiet ((go_at_call 38; exact Calls.quiet_of_same (need_same _ _ _ _)))
      go_wp2_with fail
      exact ⟨⟨1, by omega, rfl, m + nq, by rw [hwr.out, World.drewN_drewN]⟩, by simp [intOf]⟩
    by_cases hj1 : j = 1
    · subst hj1
      rw [show ((1 : Nat) : Int) = 1 from rfl]
      go_wp2_with fail
      refine (need_same _ _ _ _).mono ?_
      rintro e w' ⟨rfl, rfl⟩
      go_wp2_with fail
      go_quiet ((go_at_call 38; exact Calls.quiet_of_same (need_same _ _ _ _)))
      go_wp2_with fail
      exact ⟨⟨2, by omega, rfl, m + nq, by rw [hwr.out, World.drewN_drewN]⟩, by simp [intOf]⟩
    by_cases hj2 : j = 2
    · subst hj2
      rw [show ((2 : Nat) : Int) = 2 from rfl]
      go_wp2_with fail
      refine (need_same _ _ _ _).mono ?_
      rintro e w' ⟨rfl, rfl⟩
      go_wp2_with fail
      go_quiet ((go_at_call 38; exact Calls.quiet_of_same (need_same _ _ _ _)))
      go_wp2_with fail
      exact ⟨⟨3, by omega, rfl, m + nq, by rw [hwr.out, World.drewN_drewN]⟩, by simp [intOf]⟩
    by_cases hj3 : j = 3
    · subst hj3
      rw [show ((3 : Nat) : Int) = 3 from rfl]
      go_wp2_with fail
      refine (need_same _ _ _ _).mono ?_
      rintro e w' ⟨rfl, rfl⟩
      go_wp2_with fail
      go_quiet ((go_at_call 38; exact Calls.quiet_of_same (need_same _ _ _ _)))
      go_wp2_with fail
      exact ⟨⟨4, by omega, rfl, m + nq, by rw [hwr.out, World.drewN_drewN]⟩, by simp [intOf]⟩
    obtain rfl : j = 4 := by omega
    rw [show ((4 : Nat) : Int) = 4 from rfl]
    go_wp2_with fail
    refine (need_same _ _ _ _).mono ?_
    rintro e w' ⟨rfl, rfl⟩
    go_wp2_with fail
    refine (need_same _ _ _ _).mono ?_
    rintro e w' ⟨rfl, rfl⟩
    go_wp2_with fail
    refine (need_same _ _ _ _).mono ?_
    rintro e w' ⟨rfl, rfl⟩
    go_wp2_with fail
    refine (need_same _ _ _ _).mono ?_
    rintro e w' ⟨rfl, rfl⟩
    go_wp2_with fail
    refine (need_false kFrame 8 3 _).mono ?_
    rintro e w2 ⟨q, rfl, hq, hF, hB2⟩
    have hB3 := Lib.hid (later' hBr.out hB2 hBr.out.size)
    have hq2 : w.heap.size ≤ q := Nat.le_trans hBr.out.size hq
    replace hF := Lib.hid hF
    clear hBr hB2
    go_wp2_with fail
    exact ⟨rfl, q, rfl, hq2, hF.out, hB3.out⟩

set_option maxHeartbeats 8000000 in
theorem peek_s9 (b o c : Nat) (kd : UInt8) (w : World) (hk1 : 1 ≤ nb kd) (hk6 : nb kd ≤ 6) (hc : 10 ≤ c) (x0 : w.cell? ⟨b, o, none⟩ = some (.int .u8 82)) (x1 : w.cell? ⟨b, o + 1, none⟩ = some (.int .u8 73)) (x2 : w.cell? ⟨b, o + 2, none⟩ = some (.int .u8 77)) (x3 : w.cell? ⟨b, o + 3, none⟩ = some (.int .u8 69)) (x4 : w.cell? ⟨b, o + 4, none⟩ = some (.int .u8 1)) (x5 : w.cell? ⟨b, o + 5, none⟩ = some (.int .u8 (nb kd))) :
    Calls Tryd.prog 37 #[.slice (some ⟨b, o, none⟩) 9 c] w (Short w 9) := by
  go_enter Tryd.func37, Tryd.ntmps37
  go_wp2_with fail
  go_loopw [4, 6] (fun _ i wr => ∃ k : Nat, k ≤ 4 ∧ i = .int .i64 k ∧ ∃ m, wr = w.drewN m) (fun _ i _ => 4 - (intOf i).toNat)
  case atStart => exact ⟨0, by omega, rfl, 0, rfl⟩
  case round =>
    obtain ⟨j, hj, rfl, m, hwr⟩ := hrel
    have y0 : wr.cell? ⟨b, o, none⟩ = some (.int .u8 82) := by rw [hwr]; exact x0
    have y1 : wr.cell? ⟨b, o + 1, none⟩ = some (.int .u8 73) := by rw [hwr]; exact x1
    have y2 : wr.cell? ⟨b, o + 2, none⟩ = some (.int .u8 77) := by rw [hwr]; exact x2
    have y3 : wr.cell? ⟨b, o + 3, none⟩ = some (.int .u8 69) := by rw [hwr]; exact x3
    have y4 : wr.cell? ⟨b, o + 4, none⟩ = some (.int .u8 1) := by rw [hwr]; exact x4
    have y5 : wr.cell? ⟨b, o + 5, none⟩ = some (.int .u8 (nb kd)) := by rw [hwr]; exact x5
    have hBr : Hid (Below w.heap.size w wr) := Lib.hid (by rw [hwr]; exact below_drewN (Below.refl _ _) m)
    replace hwr := Lib.hid hwr
    clear x0 x1 x2 x3 x4 x5
    by_cases hj0 : j = 0
    · subst hj0
      rw [show ((0 : Nat) : Int) = 0 from rfl]
      go_wp2_with fail
      refine (need_same _ _ _ _).mono ?_
      rintro e w' ⟨rfl, rfl⟩
      go_wp2_with fail
      go_quiet ((go_at_call 38; exact Calls.quiet_of_same (need_same _ _ _ _)))
      go_wp2_with fail
      exact ⟨⟨1, by omega, rfl, m + nq, by rw [hwr.out, World.drewN_drewN]⟩, by simp [intOf]⟩
    by_cases hj1 : j = 1
    · subst hj1
      rw [show ((1 : Nat) : Int) = 1 from rfl]
      go_wp2_with fail
      refine (need_same _ _ _ _).mono ?_
      rintro e w' ⟨rfl, rfl⟩
      go_wp2_with fail
      go_quiet ((go_at_call 38; exact Calls.quiet_of_same (need_same _ _ _ _)))
      go_wp2_with fail
      exact ⟨⟨2, by omega, rfl, m + nq, by rw [hwr.out, World.drewN_drewN]⟩, by simp [intOf]⟩
    by_cases hj2 : j = 2
    · subst hj2
      rw [show ((2 : Nat) : Int) = 2 from rfl]
      go_wp2_with fail
      refine (need_same _ _ _ _).mono ?_
      rintro e w' ⟨rfl, rfl⟩
      go_wp2_with fail
      go_quiet ((go_at_call 38; exact Calls.quiet_of_same (need_same _ _ _ _)))
      go_wp2_with fail
      exact ⟨⟨3, by omega, rfl, m + nq, by rw [hwr.out, World.drewN_drewN]⟩, by simp [intOf]⟩
    by_cases hj3 : j = 3
    · subst hj3
      rw [show ((3 : Nat) : Int) = 3 from rfl]
      go_wp2_with fail
      refine (need_same _ _ _ _).mono ?_
      rintro e w' ⟨rfl, rfl⟩
      go_wp2_with fail
      go_quiet ((go_at_call 38; exact Calls.quiet_of_same (need_same _ _ _ _)))
      go_wp2_with fail
      exact ⟨⟨4, by omega, rfl, m + nq, by rw [hwr.out, World.drewN_drewN]⟩, by simp [intOf]⟩
    obtain rfl : j = 4 := by omega
    rw [show ((4 : Nat) : Int) = 4 from rfl]
    go_wp2_with fail
    refine (need_same _ _ _ _).mono ?_
    rintro e w' ⟨rfl, rfl⟩
    go_wp2_with fail
    refine (need_same _ _ _ _).mono ?_
    rintro e w' ⟨rfl, rfl⟩
    go_wp2_with fail
    refine (need_same _ _ _ _).mono ?_
    rintro e w' ⟨rfl, rfl⟩
    go_wp2_with fail
    refine (need_same _ _ _ _).mono ?_
    rintro e w' ⟨rfl, rfl⟩
    go_wp2_with fail
    refine (need_false kFrame 9 3 _).mono ?_
    rintro e w2 ⟨q, rfl, hq, hF, hB2⟩
    have hB3 := Lib.hid (later' hBr.out hB2 hBr.out.size)
    have hq2 : w.heap.size ≤ q := Nat.le_trans hBr.out.size hq
    replace hF := Lib.hid hF
    clear hBr hB2
    go_wp2_with fail
    exact ⟨rfl, q, rfl, hq2, hF.out, hB3.out⟩

end Go.Proofs.YtmnmmabhmedioaaDoor
