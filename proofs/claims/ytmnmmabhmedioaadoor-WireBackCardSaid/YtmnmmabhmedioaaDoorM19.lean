/- Wire: peek of any bytes. -/
import Derived.Test.YtmnmmabhmedioaaDoorM18
import Derived.Test.YtmnmmabhmedioaaDoorM16
import Derived.Test.YtmnmmabhmedioaaDoorM15
import Derived.Test.YtmnmmabhmedioaaDoorM17
namespace Go.Proofs.YtmnmmabhmedioaaDoor
open Go.RowKit
set_option linter.unusedVariables false
set_option linter.unusedSimpArgs false
set_option maxRecDepth 100000

def PeekPost (w : World) (l : List UInt8) (e : Ending) (w' : World) : Prop :=
  match peekBad l with
  | some f => PeekBad w f e w'
  | none => e = .returned (.tuple #[.int .i64 (nb (l.getD 5 0)), .int .i64 (peekLen l : Int)]) ∧ ∃ m, w' = w.drewN m
theorem PeekPost.bad {w w' : World} {l : List UInt8} {f : FD} {e : Ending} (h : peekBad l = some f) (k : PeekBad w f e w') : PeekPost w l e w' := by unfold PeekPost; rw [h]; exact k
theorem PeekPost.good {w w' : World} {l : List UInt8} {e : Ending} (h : peekBad l = none) (k : e = .returned (.tuple #[.int .i64 (nb (l.getD 5 0)), .int .i64 (peekLen l : Int)]) ∧ ∃ m, w' = w.drewN m) : PeekPost w l e w' := by unfold PeekPost; rw [h]; exact k
theorem nb_lit {x y : UInt8} {v : Int} (h : ¬ x = y) (hv : nb y = v) : nb x ≠ v := fun e => h (nb_inj (e.trans hv.symm))
theorem peek_any (A : Option Addr) (c : Nat) (l : List UInt8) (w : World) (hb : Bs w A l) (hl : l.length ≤ 140737488355328) (hc : l.length ≤ c) :
    Calls Tryd.prog 37 #[.slice A l.length c] w (PeekPost w l) := by
  obtain ⟨r, hr⟩ : ∃ r, peekBad l = r := ⟨_, rfl⟩
  have hr0 := hr
  unfold peekBad at hr
  by_cases h0 : l.length ≤ 0
  · rw [if_pos h0] at hr
    subst hr
    have hk : l.length = 0 := by omega
    rw [hk] at hr0 ⊢
    exact (peek_z0 A c w).mono fun _ _ h => PeekPost.bad hr0 h
  rw [if_neg h0] at hr
  obtain ⟨b, o, rfl, hcell⟩ := hb (by omega)
  have x : ∀ i v, i < l.length → B8 (l.getD i 0) = v → w.cell? ⟨b, o + i, none⟩ = some v := fun i v hi hv => by rw [← hv]; exact hcell i hi
  by_cases m0 : l.getD 0 0 ≠ 82
  · rw [if_pos m0] at hr
    subst hr
    exact (peek_m0 b o c l.length (by omega) hl (l.getD 0 0) (nb_lit m0 rfl) w (x 0 _ (by omega) rfl)).mono fun _ _ h => PeekPost.bad hr0 h
  rw [if_neg m0] at hr
  have e0 : l.getD 0 0 = 82 := Classical.not_not.1 m0
  by_cases h1 : l.length ≤ 1
  · rw [if_pos h1] at hr
    subst hr
    have hk : l.length = 1 := by omega
    rw [hk] at hr0 ⊢
    exact (peek_z1 b o c w (x 0 _ (by omega) (by rw [e0]; rfl))).mono fun _ _ h => PeekPost.bad hr0 h
  rw [if_neg h1] at hr
  by_cases m1 : l.getD 1 0 ≠ 73
  · rw [if_pos m1] at hr
    subst hr
    exact (peek_m1 b o c l.length (by omega) hl (l.getD 1 0) (nb_lit m1 rfl) w (x 0 _ (by omega) (by rw [e0]; rfl)) (x 1 _ (by omega) rfl)).mono fun _ _ h => PeekPost.bad hr0 h
  rw [if_neg m1] at hr
  have e1 : l.getD 1 0 = 73 := Classical.not_not.1 m1
  by_cases h2 : l.length ≤ 2
  · rw [if_pos h2] at hr
    subst hr
    have hk : l.length = 2 := by omega
    rw [hk] at hr0 ⊢
    exact (peek_z2 b o c w (x 0 _ (by omega) (by rw [e0]; rfl)) (x 1 _ (by omega) (by rw [e1]; rfl))).mono fun _ _ h => PeekPost.bad hr0 h
  rw [if_neg h2] at hr
  by_cases m2 : l.getD 2 0 ≠ 77
  · rw [if_pos m2] at hr
    subst hr
    exact (peek_m2 b o c l.length (by omega) hl (l.getD 2 0) (nb_lit m2 rfl) w (x 0 _ (by omega) (by rw [e0]; rfl)) (x 1 _ (by omega) (by rw [e1]; rfl)) (x 2 _ (by omega) rfl)).mono fun _ _ h => PeekPost.bad hr0 h
  rw [if_neg m2] at hr
  have e2 : l.getD 2 0 = 77 := Classical.not_not.1 m2
  by_cases h3 : l.length ≤ 3
  · rw [if_pos h3] at hr
    subst hr
    have hk : l.length = 3 := by omega
    rw [hk] at hr0 ⊢
    exact (peek_z3 b o c w (x 0 _ (by omega) (by rw [e0]; rfl)) (x 1 _ (by omega) (by rw [e1]; rfl)) (x 2 _ (by omega) (by rw [e2]; rfl))).mono fun _ _ h => PeekPost.bad hr0 h
  rw [if_neg h3] at hr
  by_cases m3 : l.getD 3 0 ≠ 69
  · rw [if_pos m3] at hr
    subst hr
    exact (peek_m3 b o c l.length (by omega) hl (l.getD 3 0) (nb_lit m3 rfl) w (x 0 _ (by omega) (by rw [e0]; rfl)) (x 1 _ (by omega) (by rw [e1]; rfl)) (x 2 _ (by omega) (by rw [e2]; rfl)) (x 3 _ (by omega) rfl)).mono fun _ _ h => PeekPost.bad hr0 h
  rw [if_neg m3] at hr
  have e3 : l.getD 3 0 = 69 := Classical.not_not.1 m3
  by_cases h4 : l.length ≤ 4
  · rw [if_pos h4] at hr
    subst hr
    have hk : l.length = 4 := by omega
    rw [hk] at hr0 ⊢
    exact (peek_z4 b o c w (x 0 _ (by omega) (by rw [e0]; rfl)) (x 1 _ (by omega) (by rw [e1]; rfl)) (x 2 _ (by omega) (by rw [e2]; rfl)) (x 3 _ (by omega) (by rw [e3]; rfl))).mono fun _ _ h => PeekPost.bad hr0 h
  rw [if_neg h4] at hr
  by_cases m4 : l.getD 4 0 ≠ 1
  · rw [if_pos m4] at hr
    subst hr
    exact (peek_v b o c l.length (by omega) hl (l.getD 4 0) (nb_lit m4 rfl) w (x 0 _ (by omega) (by rw [e0]; rfl)) (x 1 _ (by omega) (by rw [e1]; rfl)) (x 2 _ (by omega) (by rw [e2]; rfl)) (x 3 _ (by omega) (by rw [e3]; rfl)) (x 4 _ (by omega) rfl)).mono fun _ _ h => PeekPost.bad hr0 h
  rw [if_neg m4] at hr
  have e4 : l.getD 4 0 = 1 := Classical.not_not.1 m4
  by_cases h5 : l.length ≤ 5
  · rw [if_pos h5] at hr
    subst hr
    have hk : l.length = 5 := by omega
    rw [hk] at hr0 ⊢
    exact (peek_z5 b o c w (x 0 _ (by omega) (by rw [e0]; rfl)) (x 1 _ (by omega) (by rw [e1]; rfl)) (x 2 _ (by omega) (by rw [e2]; rfl)) (x 3 _ (by omega) (by rw [e3]; rfl)) (x 4 _ (by omega) (by rw [e4]; rfl))).mono fun _ _ h => PeekPost.bad hr0 h
  rw [if_neg h5] at hr
  by_cases mk : ¬ (1 ≤ nb (l.getD 5 0) ∧ nb (l.getD 5 0) ≤ 6)
  · rw [if_pos mk] at hr
    subst hr
    by_cases lo : nb (l.getD 5 0) < 1
    · exact (peek_klo b o c l.length (by omega) hl (l.getD 5 0) lo w (x 0 _ (by omega) (by rw [e0]; rfl)) (x 1 _ (by omega) (by rw [e1]; rfl)) (x 2 _ (by omega) (by rw [e2]; rfl)) (x 3 _ (by omega) (by rw [e3]; rfl)) (x 4 _ (by omega) (by rw [e4]; rfl)) (x 5 _ (by omega) rfl)).mono fun _ _ h => PeekPost.bad hr0 h
    · exact (peek_khi b o c l.length (by omega) hl (l.getD 5 0) (by omega) w (x 0 _ (by omega) (by rw [e0]; rfl)) (x 1 _ (by omega) (by rw [e1]; rfl)) (x 2 _ (by omega) (by rw [e2]; rfl)) (x 3 _ (by omega) (by rw [e3]; rfl)) (x 4 _ (by omega) (by rw [e4]; rfl)) (x 5 _ (by omega) rfl)).mono fun _ _ h => PeekPost.bad hr0 h
  rw [if_neg mk] at hr
  rw [Classical.not_not] at mk
  by_cases h10 : l.length < 10
  · rw [if_pos h10] at hr
    subst hr
    have hk : l.length = 6 ∨ l.length = 7 ∨ l.length = 8 ∨ l.length = 9 := by omega
    rcases hk with hk | hk | hk | hk
    · rw [hk] at hr0 ⊢
      exact (peek_z6 b o c (l.getD 5 0) mk.1 mk.2 w (x 0 _ (by omega) (by rw [e0]; rfl)) (x 1 _ (by omega) (by rw [e1]; rfl)) (x 2 _ (by omega) (by rw [e2]; rfl)) (x 3 _ (by omega) (by rw [e3]; rfl)) (x 4 _ (by omega) (by rw [e4]; rfl)) (x 5 _ (by omega) rfl)).mono fun _ _ h => PeekPost.bad hr0 h
    · rw [hk] at hr0 ⊢
      exact (peek_z7 b o c (l.getD 5 0) mk.1 mk.2 w (x 0 _ (by omega) (by rw [e0]; rfl)) (x 1 _ (by omega) (by rw [e1]; rfl)) (x 2 _ (by omega) (by rw [e2]; rfl)) (x 3 _ (by omega) (by rw [e3]; rfl)) (x 4 _ (by omega) (by rw [e4]; rfl)) (x 5 _ (by omega) rfl)).mono fun _ _ h => PeekPost.bad hr0 h
    · rw [hk] at hr0 ⊢
      exact (peek_z8 b o c (l.getD 5 0) mk.1 mk.2 w (x 0 _ (by omega) (by rw [e0]; rfl)) (x 1 _ (by omega) (by rw [e1]; rfl)) (x 2 _ (by omega) (by rw [e2]; rfl)) (x 3 _ (by omega) (by rw [e3]; rfl)) (x 4 _ (by omega) (by rw [e4]; rfl)) (x 5 _ (by omega) rfl)).mono fun _ _ h => PeekPost.bad hr0 h
    · rw [hk] at hr0 ⊢
      exact (peek_z9 b o c (l.getD 5 0) mk.1 mk.2 w (x 0 _ (by omega) (by rw [e0]; rfl)) (x 1 _ (by omega) (by rw [e1]; rfl)) (x 2 _ (by omega) (by rw [e2]; rfl)) (x 3 _ (by omega) (by rw [e3]; rfl)) (x 4 _ (by omega) (by rw [e4]; rfl)) (x 5 _ (by omega) rfl)).mono fun _ _ h => PeekPost.bad hr0 h
  rw [if_neg h10] at hr
  have hs : Bs w (some ⟨b, o + 6, none⟩) (segL l 6 4) := (hb.drop 6).take 4
  have hsl : (segL l 6 4).length = 4 := segL_len (by omega)
  by_cases hN : 1065189 < numL (segL l 6 4)
  · rw [if_pos hN] at hr
    subst hr
    exact (peek_l b o c l.length (by omega) hl hc (l.getD 5 0) mk.1 mk.2 (segL l 6 4) hsl hN w (x 0 _ (by omega) (by rw [e0]; rfl)) (x 1 _ (by omega) (by rw [e1]; rfl)) (x 2 _ (by omega) (by rw [e2]; rfl)) (x 3 _ (by omega) (by rw [e3]; rfl)) (x 4 _ (by omega) (by rw [e4]; rfl)) (x 5 _ (by omega) rfl) hs).mono fun _ _ h => PeekPost.bad hr0 h
  rw [if_neg hN] at hr
  subst hr
  refine (peek_good b o c l.length (by omega) hl hc (l.getD 5 0) mk.1 mk.2 (segL l 6 4) hsl (by omega) w (x 0 _ (by omega) (by rw [e0]; rfl)) (x 1 _ (by omega) (by rw [e1]; rfl)) (x 2 _ (by omega) (by rw [e2]; rfl)) (x 3 _ (by omega) (by rw [e3]; rfl)) (x 4 _ (by omega) (by rw [e4]; rfl)) (x 5 _ (by omega) rfl) hs).mono fun _ _ h => PeekPost.good hr0 ⟨h.1.trans ?_, h.2⟩
  rw [show (10 : Int) + (numL (segL l 6 4) : Int) + 4 = (peekLen l : Int) from by unfold peekLen; omega]
end Go.Proofs.YtmnmmabhmedioaaDoor
/- Wire: the reader reads a list and a text. -/
namespace Go.Proofs.YtmnmmabhmedioaaDoor
open Go.RowKit
set_option linter.unusedVariables false
set_option linter.unusedSimpArgs false
set_option maxRecDepth 100000

def listK (F : List UInt8) (k : Nat → List Pair → List UInt8 → DR) : DR := takeF F kList 44 44 1 fun n => listF F (n.getD 0 0).toNat 45 [] fun at_ ps => textF F at_ fun e2 x => k e2 ps x
def ListGood (w : World) (R b o Q c : Nat) (F : List UInt8) (m : Msg) (at_ : Nat) (ps : List Pair) (x : List UInt8) (e : Ending) (w' : World) : Prop :=
  ∃ CS LA lc TA tc, e = .returned (.tuple #[]) ∧ RdM w' R b o Q c at_ F CS ∧ MsgC CS { m with list := ps, text := x } (.slice LA ps.length lc) (.slice TA x.length tc) ∧ OwnP w' w.heap.size LA lc ps ∧ OwnB w' w.heap.size TA tc x ∧ PairsOk ps ∧ Keep (fun k => k = R) w w'
def ListPost (w : World) (R b o Q c : Nat) (F : List UInt8) (m : Msg) (k : Nat → List Pair → List UInt8 → DR) (dr : DR) (e : Ending) (w' : World) : Prop :=
  (∃ f, dr = .bad f ∧ ThrewK w R f e w') ∨ (∃ at_ ps x, k at_ ps x = dr ∧ ListGood w R b o Q c F m at_ ps x e w')

section
variable (w : World)
theorem step_append_ps {ops : Array Oper} {o : Oper} {a : Act} {K : Act → World → Prop} {Q : Exit → Act → World → Prop} {E : Prop} (hgd : o.guard = none) (s x : Operand)
    (ho : o.op = .call { callee := .builtin .append, args := #[s, x], argTypes := #[30, 30] })
    (base : Nat) (A : Option Addr) (n c : Nat) (xs : List Pair) (hn : xs.length = n) (hs : a.eval s = .slice A n c) (hown : OwnP w base A c xs)
    (X : Option Addr) (m d : Nat) (l : List Pair) (hl : l.length = m) (hx : a.eval x = .slice X m d) (hX : PairsIn w X l) (pl : ∀ p ∈ l, PairOk p) (hm : xs.length + l.length ≤ 1000000000000) (hbase : base ≤ w.heap.size)
    (h : ∀ A' c' w', OwnP w' base A' c' (xs ++ l) → w.grownBy w' (Value.slice A n c).ownBlock → K (a.put o.dst (.slice A' (n + m) c')) w') :
    if Region.wanted o (yielded ops a.tmps) = true then Oper.wp Tryd.prog o a w K Q else E := by
  rw [if_pos (by simp [Region.wanted, hgd])]
  subst hn
  subst hl
  obtain ⟨A', c', w', hr, h2, h3⟩ := run_append_ps w o.type base A c xs hown X d l hX pl hm hbase
  unfold Oper.wp execOp
  simp only [ho, resolve, invoke, builtin, Sem.run_bind, Sem.run_pure, Result.andThen_ok, List.map_toArray, List.map_cons, List.map_nil, hs, hx, hr]
  exact h A' c' w' h2 h3
end

theorem fold_row {PA : Array Value} {n : Nat} (hn : PA.size = n) (cs : Array Value) (hc : cs.size = n) : Array.foldl (fun cs (x : Value × Nat) => cs.setIfInBounds x.snd x.fst) cs PA.zipIdx 0 n = PA := by
  have h := put_foldN hn 0 cs
  simp only [Nat.zero_add] at h
  rw [h]
  apply Array.ext_getElem?
  intro i
  by_cases hi : i < n
  · have h2 := setRange_in cs 0 PA.toList i (by simpa [hn] using hi) (by simp [hn, hc])
    rw [Nat.zero_add] at h2
    rw [h2]
    simp
  · rw [Array.getElem?_eq_none (by rw [setRange_size]; omega), Array.getElem?_eq_none (by omega)]
theorem pair_no {R b o Q c at_ : Nat} {F : List UInt8} {CS : Array Value} {w : World} (h : RdM w R b o Q c at_ F CS) (field : List UInt8) (f : FD) (hf : (Q < at_ + 65 ∧ f = ⟨field, at_, 3⟩) ∨ (at_ + 65 ≤ Q ∧ F.getD at_ 0 = 0 ∧ f = ⟨field, at_, 4⟩)) :
    Calls Tryd.prog 41 #[.pointer (some ⟨R, 0, none⟩), .string ⟨field.toArray⟩] w (ThrewK w R f) := by
  rcases hf with ⟨h1, rfl⟩ | ⟨h1, h2, rfl⟩
  · exact pair_short h h.lt field h1
  · exact pair_zero h h.lt field h1 h2
theorem run_build1 (w : World) (PA : Array Value) (hs : PA.size = 65) : (Instr.buildSlice 30 1 #[(0, .agg PA)]).run Tryd.prog w = .ok (.slice (some ⟨w.heap.size, 0, none⟩) 1 1) (w.alloc (.cells PA 29)) := by
  obtain ⟨i0, hi0, hz0, hz1, hz2⟩ := info_parts infP
  unfold Instr.buildSlice
  have hsz : (sizeOf 29).run Tryd.prog w = .ok 65 w := by simp [sizeOf, typeInfo, hi0, hz1]
  have hzv : (zeroValue 29).run Tryd.prog w = .ok (.agg Tryd.zeroCells29) w := by simp [zeroValue, typeInfo, hi0, hz0]
  simp only [Sem.run_bind, run_underlying Tryd.underlying30, Result.andThen_ok, hsz]
  rw [if_neg (by decide), if_neg (by decide)]
  simp only [Sem.run_bind, Sem.run_pure, Result.andThen_ok, hzv]
  have hZ : ((Array.range (1 * 65)).map ((Value.agg Tryd.zeroCells29).cells[· % (Value.agg Tryd.zeroCells29).cells.size]!)).size = 65 := by simp
  generalize (Array.range (1 * 65)).map ((Value.agg Tryd.zeroCells29).cells[· % (Value.agg Tryd.zeroCells29).cells.size]!) = Z at hZ ⊢
  have hfold := fold_row hs Z hZ
  have hf : Instr.fill (fun i => some (i * 65, 65)) Z [(0, .agg PA)] = some PA := by
    simp [Instr.fill, Value.cells, hs, hZ, hfold]
  simp [Instr.fill, Value.cells, hs, hZ, hfold, newRow, go_sem]
theorem step_build1 (w : World) {ops : Array Oper} {o : Oper} {a : Act} {K : Act → World → Prop} {Q : Exit → Act → World → Prop} {E : Prop} (hgd : o.guard = none) (x : Operand)
    (ho : o.op = .buildSlice 30 1 #[(0, x)]) (PA : Array Value) (hx : a.eval x = .agg PA) (hs : PA.size = 65)
    (h : K (a.put o.dst (.slice (some ⟨w.heap.size, 0, none⟩) 1 1)) (w.alloc (.cells PA 29))) :
    if Region.wanted o (yielded ops a.tmps) = true then Oper.wp Tryd.prog o a w K Q else E := by
  rw [if_pos (by simp [Region.wanted, hgd])]
  have hr := run_build1 w PA hs
  unfold Oper.wp execOp
  simp only [ho, List.map_toArray, List.map_cons, List.map_nil, hx, Sem.run_bind, hr, Result.andThen_ok, Sem.run_pure]
  exact h
theorem PairsIn.boxed (W : World) {p : Pair} (hp : PairOk p) : PairsIn (W.alloc (.cells (pairA p) 29)) (some ⟨W.heap.size, 0, none⟩) [p] := fun _ => ⟨_, _, rfl, fun i hi j v hv => by
  obtain rfl : i = 0 := by simpa using hi
  exact cell_of (heap_alloc_new W _) (by simpa using hv)⟩
theorem OwnP.keepR {w w' : World} {base R : Nat} {A : Option Addr} {c : Nat} {ps : List Pair} {cs : Array Value} (h : OwnP w base A c ps) (k : Keep (fun i => i = R) w w') (hR : w.heap[R]? = some (.cells cs 107 (0, 0))) : OwnP w' base A c ps :=
  h.keep k (fun a ha => h.ne hR (by decide) a ha)
theorem RdM.grewP {w w' : World} {R b o Q c at_ base cc n : Nat} {F : List UInt8} {CS : Array Value} {A : Option Addr} {l : List Pair} (h : RdM w R b o Q c at_ F CS) (hO : OwnP w base A cc l) (hg : w.grownBy w' (Value.slice A n cc).ownBlock) (hb : ∀ a, A = some a → a.block ≠ b) : RdM w' R b o Q c at_ F CS :=
  h.keep (keep_grew (D := fun k => k ≠ R ∧ k ≠ b) hg (fun a ha => ⟨hO.ne h.hR (by decide) a ha, hb a ha⟩)) (by simp) (by simp)
theorem keep_grewP {w0 w w' : World} {R cc n : Nat} {A : Option Addr} {l : List Pair} (k : Keep (fun i => i = R) w0 w) (hO : OwnP w w0.heap.size A cc l) (hg : w.grownBy w' (Value.slice A n cc).ownBlock) : Keep (fun i => i = R) w0 w' := by
  have k2 : Keep (fun i => w0.heap.size ≤ i) w w' := keep_grew hg (fun a ha => (hO.ge a ha).1)
  refine ⟨k2.os.trans k.os, k2.tape.trans k.tape, k2.output.trans k.output, Nat.le_trans k.size k2.size, fun i hi hd => ?_⟩
  rw [k2.block i (Nat.lt_of_lt_of_le hi k.size) (by omega)]
  exact k.block i hi hd
set_option maxHeartbeats 16000000 in
theorem list_rd {R b o Q c : Nat} {F : List UInt8} {CS : Array Value} {m : Msg} {w : World} (h : RdM w R b o Q c 44 F CS) (hM : MsgC CS m (.slice none 0 0) (.slice none 0 0)) (hm : m.list = []) (hbl : b < w.heap.size) (k : Nat → List Pair → List UInt8 → DR) (dr : DR) (hdr : listK F k = dr) :
    Calls Tryd.prog 42 #[.pointer (some ⟨R, 0, none⟩)] w (ListPost w R b o Q c F m k dr) := by
  have hpl := h.hF
  unfold listK at hdr
  have l1 := h.c1
  have hRd := Lib.hid h
  replace hdr := Lib.hid hdr
  clear h
  go_enter Tryd.func42, Tryd.ntmps42
  go_wp2_with fail
  by_cases hlt0 : Q < 44 + 1
  · have hP := Lib.hid (takeF_bad hdr.out (by rw [hpl]; exact hlt0))
    clear hdr
    refine (take_rd_short hRd.out 1 kList _ hlt0 (by omega)).mono ?_
    rintro e w1 ⟨q, rfl, hq, hF, hK⟩
    replace hF := Lib.hid hF
    replace hK := Lib.hid hK
    clear hRd l1
    go_wp2_with fail
    exact ⟨rfl, .inl ⟨_, hP.out, q, rfl, hq, hF.out, hK.out⟩⟩
  replace hdr := Lib.hid (takeF_ok hdr.out (by rw [hpl]; omega))
  refine (take_rd hRd.out 1 _ _ (by omega)).mono ?_
  rintro e w1 ⟨rfl, hRd2, hK1⟩
  replace hRd : Hid (RdM w1 R b o Q c 45 F CS) := Lib.hid hRd2
  have x0 := hRd.out.cell (j := 44) (by omega) (o + 44) rfl
  have e0 : (segL F 44 1).getD 0 0 = F.getD 44 0 := segL_getD _ _ _ 0 (by decide)
  rw [e0] at hdr
  replace x0 : w1.cell? ⟨b, o + 44, none⟩ = some (.int .u8 (((F.getD 44 0).toNat : Nat) : Int)) := x0
  have hN := (F.getD 44 0).toNat_lt
  generalize (F.getD 44 0).toNat = N at x0 hN hdr
  have hwf : IntKind.i64.wrap (N : Int) = (N : Int) := by rw [IntKind.wrap_i64]; omega
  have hwf2 : wrap64 (N : Int) = (N : Int) := IntWalk.wrap64_in _ ⟨by omega, by omega⟩
  replace hK1 := Lib.hid hK1
  clear hRd2 l1 e0
  go_wp2_with fail
  clear x0 hwf hwf2
  generalize hKK : (fun at_ ps => textF F at_ fun e2 x => k e2 ps x) = KK at hdr
  replace hKK := Lib.hid hKK
  have hO0 := Lib.hid (OwnP.nil w1 w.heap.size)
  replace hM := Lib.hid hM
  have hm0 : m = { m with list := [] } := by rw [← hm]
  go_loopw [15] (fun si wr => ∃ (i : Nat) (ps : List Pair) (LA : Option Addr) (lc : Nat) (CSr : Array Value), i ≤ N ∧ si = .int .i64 i ∧ ps.length = i ∧ Hid (RdM wr R b o Q c (45 + 65 * i) F CSr) ∧ Hid (MsgC CSr { m with list := ps } (.slice LA i lc) (.slice none 0 0)) ∧ Hid (OwnP wr w.heap.size LA lc ps) ∧ Hid (PairsOk ps) ∧ Hid (Keep (fun k => k = R) w wr) ∧ Hid (listF F (N - i) (45 + 65 * i) ps KK = dr)) (fun si _ => N - (intOf si).toNat)
  case atStart => exact ⟨0, [], none, 0, CS, by omega, rfl, rfl, hRd, Lib.hid (by rw [← hm0]; exact hM.out), hO0, Lib.hid PairsOk.nil, hK1, hdr⟩
  case round =>
    clear hRd hM hK1 hdr hO0 hm0 hm
    obtain ⟨i, ps, LA, lc, CSr, hi, rfl, hps, hRd, hM, hO, hpo, hK, hdr⟩ := hrel
    by_cases hlt : i < N
    · have hst : listF F (N - i) (45 + 65 * i) ps KK = pairF F kList (45 + 65 * i) fun p => listF F (N - (i + 1)) (45 + 65 * (i + 1)) (ps ++ [p]) KK := by
        rw [show N - i = (N - (i + 1)) + 1 from by omega]
        rfl
      replace hdr := Lib.hid (hst.symm.trans hdr.out)
      clear hst
      -- REGION
      have hRdD : Hid (RdM wr.drew R b o Q c (45 + 65 * i) F CSr) := Lib.hid (hRd.out.drewN 1)
      have hOD : Hid (OwnP wr.drew w.heap.size LA lc ps) := Lib.hid hO.out
      have hKD : Hid (Keep (fun k => k = R) w wr.drew) := Lib.hid (hK.out.trans (Keep.drewN (D := fun k => k = R) (w := wr) 1))
      have d102 := hRdD.out.c2 hM.out.list 102 rfl
      have f102 := hRdD.out.free 102
      clear hRd hO hK
      by_cases hno : ∃ f, dr = .bad f ∧ ((Q < 45 + 65 * i + 65 ∧ f = ⟨kList, (45 + 65 * i : Nat), 3⟩) ∨ (45 + 65 * i + 65 ≤ Q ∧ F.getD (45 + 65 * i) 0 = 0 ∧ f = ⟨kList, (45 + 65 * i : Nat), 4⟩))
      · obtain ⟨f, hP, hf⟩ := hno
        replace hP := Lib.hid hP
        replace hf := Lib.hid hf
        clear hdr
        go_wp2_with fail
        refine wp_region_any (by kernel_rfl) ?_
        change wpAny _ _ _ _ _ _ _ wr.drew
        generalize wr.drew = wd at hRdD hKD hOD d102 f102 ⊢
        refine wpAny_take (i := 0) (v := .pointer (some ⟨R, 0, none⟩)) rfl (by kernel_rfl) (by kernel_rfl) (by kernel_rfl) (fun _ _ _ h => h) (Or.inl ⟨by rfl, ?_⟩) ?_
        · intro w
          go_simp
        refine wpAny_take (i := 1) (v := .pointer (some ⟨R, 0, none⟩)) rfl (by kernel_rfl) (by kernel_rfl) (by kernel_rfl) (fun _ _ _ h => h) (Or.inl ⟨by rfl, ?_⟩) ?_
        · intro w
          go_simp
        refine wpAny_take (i := 2) (v := .pointer (some ⟨R, 0, none⟩)) rfl (by kernel_rfl) (by kernel_rfl) (by kernel_rfl) (fun _ _ _ h => h) (Or.inl ⟨by rfl, ?_⟩) ?_
        · intro w
          go_simp
        refine wpAny_take (i := 3) (v := .pointer (some ⟨R, 2, none⟩)) rfl (by kernel_rfl) (by kernel_rfl) (by kernel_rfl) (fun _ _ _ h => h) (Or.inl ⟨by rfl, ?_⟩) ?_
        · intro w
          go_simp
        refine wpAny_take (i := 4) (v := .pointer (some ⟨R, 102, none⟩)) rfl (by kernel_rfl) (by kernel_rfl) (by kernel_rfl) (fun _ _ _ h => h) (Or.inl ⟨by rfl, ?_⟩) ?_
        · intro w
          go_simp
        refine wpAny_take (i := 6) (v := .pointer (some ⟨R, 0, none⟩)) rfl (by kernel_rfl) (by kernel_rfl) (by kernel_rfl) (fun _ _ _ h => h) (Or.inl ⟨by rfl, ?_⟩) ?_
        · intro w
          go_simp
        refine wpAny_ready (rs := [5, 7]) (by kernel_rfl) (by simp) ?_
        refine AllReady.cons rfl (fun K hK => ?_) (AllReady.cons rfl (fun K hK => ?_) AllReady.nil)
        · go_simp
          refine hK _ _ ?_
          clear hK
          refine wpAny_ready (rs := [7]) (by kernel_rfl) (by simp) ?_
          refine AllReady.cons rfl (fun K hK => ?_) AllReady.nil
          go_simp
          go_at_call 41
          refine (pair_no hRdD.out kList f hf.out).mono ?_
          rintro e w6 ⟨q, rfl, hq, hF, hK6⟩
          clear hK
          have hq2 : w.heap.size ≤ q := Nat.le_trans hKD.out.size hq
          have hK7 := Lib.hid (hKD.out.trans hK6)
          replace hF := Lib.hid hF
          go_wp2_with fail
          exact ⟨rfl, .inl ⟨_, hP.out, q, rfl, hq2, hF.out, hK7.out⟩⟩
        · go_simp
          go_at_call 41
          refine (pair_no hRdD.out kList f hf.out).mono ?_
          rintro e w6 ⟨q, rfl, hq, hF, hK6⟩
          clear hK
          have hq2 : w.heap.size ≤ q := Nat.le_trans hKD.out.size hq
          have hK7 := Lib.hid (hKD.out.trans hK6)
          replace hF := Lib.hid hF
          go_wp2_with fail
          exact ⟨rfl, .inl ⟨_, hP.out, q, rfl, hq2, hF.out, hK7.out⟩⟩
      have hs : ¬ Q < 45 + 65 * i + 65 := fun h => hno ⟨_, pairF_short hdr.out (by rw [hpl]; exact h), .inl ⟨h, rfl⟩⟩
      have hz : ¬ F.getD (45 + 65 * i) 0 = 0 := fun h => hno ⟨_, pairF_zero hdr.out (by rw [hpl]; exact hs) h, .inr ⟨by omega, h, rfl⟩⟩
      clear hno
      replace hdr := Lib.hid (pairF_ok hdr.out (by rw [hpl]; exact hs) hz)
      have hPO := pairOf_ok (l := segL F (45 + 65 * i) 65) (segL_len (by rw [hpl]; omega))
      generalize hpr : pairOf (segL F (45 + 65 * i) 65) = pr at hPO hdr
      replace hpr := Lib.hid hpr
      have hPs := pairA_size hPO
      have hPin := fun (W : World) => PairsIn.boxed W hPO
      generalize hPAe : pairA pr = PA at hPs hPin
      replace hPAe := Lib.hid hPAe
      replace hPin := Lib.hid hPin
      go_wp2_with fail
      refine wp_region_any (by kernel_rfl) ?_
      change wpAny _ _ _ _ _ _ _ wr.drew
      generalize wr.drew = wd at hRdD hKD hOD d102 f102 ⊢
      refine wpAny_take (i := 0) (v := .pointer (some ⟨R, 0, none⟩)) rfl (by kernel_rfl) (by kernel_rfl) (by kernel_rfl) (fun _ _ _ h => h) (Or.inl ⟨by rfl, ?_⟩) ?_
      · intro w
        go_simp
      refine wpAny_take (i := 1) (v := .pointer (some ⟨R, 0, none⟩)) rfl (by kernel_rfl) (by kernel_rfl) (by kernel_rfl) (fun _ _ _ h => h) (Or.inl ⟨by rfl, ?_⟩) ?_
      · intro w
        go_simp
      refine wpAny_take (i := 2) (v := .pointer (some ⟨R, 0, none⟩)) rfl (by kernel_rfl) (by kernel_rfl) (by kernel_rfl) (fun _ _ _ h => h) (Or.inl ⟨by rfl, ?_⟩) ?_
      · intro w
        go_simp
      refine wpAny_take (i := 3) (v := .pointer (some ⟨R, 2, none⟩)) rfl (by kernel_rfl) (by kernel_rfl) (by kernel_rfl) (fun _ _ _ h => h) (Or.inl ⟨by rfl, ?_⟩) ?_
      · intro w
        go_simp
      refine wpAny_take (i := 4) (v := .pointer (some ⟨R, 102, none⟩)) rfl (by kernel_rfl) (by kernel_rfl) (by kernel_rfl) (fun _ _ _ h => h) (Or.inl ⟨by rfl, ?_⟩) ?_
      · intro w
        go_simp
      refine wpAny_take (i := 6) (v := .pointer (some ⟨R, 0, none⟩)) rfl (by kernel_rfl) (by kernel_rfl) (by kernel_rfl) (fun _ _ _ h => h) (Or.inl ⟨by rfl, ?_⟩) ?_
      · intro w
        go_simp
      refine wpAny_ready (rs := [5, 7]) (by kernel_rfl) (by simp) ?_
      refine AllReady.cons rfl (fun K hK => ?_) (AllReady.cons rfl (fun K hK => ?_) AllReady.nil)
      · go_simp
        refine hK _ _ ?_
        clear hK
        refine wpAny_ready (rs := [7]) (by kernel_rfl) (by simp) ?_
        refine AllReady.cons rfl (fun K hK => ?_) AllReady.nil
        go_simp
        go_at_call 41
        refine (pair_rd hRdD.out hRdD.out.lt _ (by omega) hz).mono ?_
        rintro e w6 ⟨rfl, hRd6, hK6⟩
        rw [hpr.out, hPAe.out]
        try go_simp
        refine hK _ _ ?_
        clear hK
        have y102 := hRd6.c2 hM.out.list 102 rfl
        have hO7 := (OwnP.keepR hOD.out hK6 hRdD.out.hR).on (boxed w6 (.cells PA 29))
        have hK7 := (hKD.out.trans hK6).trans (Keep.alloc (D := fun k => k = R) (w := w6) (.cells PA 29))
        have hRd7 : RdM (w6.alloc (.cells PA 29)) R b o Q c (45 + 65 * i + 65) F CSr := hRd6.on (boxed _ _)
        have hP7 := hPin.out w6
        have hs7 : w.heap.size ≤ (w6.alloc (.cells PA 29)).heap.size := hK7.size
        clear hK6 hRd6 hRdD hOD hKD d102 f102
        refine wpAny_ready (rs := [8]) (by kernel_rfl) (by simp) ?_
        refine AllReady.cons rfl (fun K hK => ?_) AllReady.nil
        refine step_build1 w6 rfl _ rfl PA rfl hPs ?_
        refine hK _ _ ?_
        clear hK y102
        generalize w6.alloc (.cells PA 29) = w7 at hO7 hK7 hRd7 hP7 hs7 ⊢
        have z102 := hRd7.c2 hM.out.list 102 rfl
        replace hRd7 := Lib.hid hRd7
        replace hO7 := Lib.hid hO7
        replace hP7 := Lib.hid hP7
        replace hK7 := Lib.hid hK7
        refine wpAny_ready (rs := [9]) (by kernel_rfl) (by simp) ?_
        refine AllReady.cons rfl (fun K hK => ?_) AllReady.nil
        refine step_append_ps w7 rfl _ _ rfl w.heap.size LA i lc ps hps rfl hO7.out (some ⟨w6.heap.size, 0, none⟩) 1 1 [pr] rfl rfl hP7.out (by simpa using hPO) (by simp; omega) hs7 ?_
        intro A8 c8 w8 hO8 hg8
        refine hK _ _ ?_
        clear hK z102
        have hR8 := grewP_box hO7.out hg8 hRd7.out.hR (by decide)
        have hRd8 : RdM w8 R b o Q c (45 + 65 * i + 65) F CSr := hRd7.out.grewP hO7.out hg8 (fun a ha => by have := (hO7.out.ge a ha).1; omega)
        have hK8 : Keep (fun k => k = R) w w8 := keep_grewP hK7.out hO7.out hg8
        have v102 := hRd8.c2 hM.out.list 102 rfl
        have f102 := hRd8.free 102
        replace hRd8 := Lib.hid hRd8
        replace hO8 := Lib.hid hO8
        replace hK8 := Lib.hid hK8
        clear hR8 hO7 hK7 hRd7 hP7
        refine wpAny_take (i := 10) (v := .pointer (some ⟨R, 0, none⟩)) rfl (by kernel_rfl) (by kernel_rfl) (by kernel_rfl) (fun _ _ _ h => h) (Or.inl ⟨by rfl, ?_⟩) ?_
        · intro w
          go_simp
        refine wpAny_take (i := 11) (v := .pointer (some ⟨R, 2, none⟩)) rfl (by kernel_rfl) (by kernel_rfl) (by kernel_rfl) (fun _ _ _ h => h) (Or.inl ⟨by rfl, ?_⟩) ?_
        · intro w
          go_simp
        refine wpAny_take (i := 12) (v := .pointer (some ⟨R, 102, none⟩)) rfl (by kernel_rfl) (by kernel_rfl) (by kernel_rfl) (fun _ _ _ h => h) (Or.inl ⟨by rfl, ?_⟩) ?_
        · intro w
          go_simp
        refine wpAny_ready (rs := [13]) (by kernel_rfl) (by simp) ?_
        refine AllReady.cons rfl (fun K hK => ?_) AllReady.nil
        go_simp
        refine hK _ _ ?_
        clear hK
        refine wpAny_done (by kernel_rfl) ?_ _
        have hRd9 := Lib.hid (hRd8.out.set1 100 (.slice A8 (i + 1) c8) 102 rfl)
        have hO9 := Lib.hid (OwnP.keepR hO8.out (Keep.set (fun k => k = R) R 102 (.slice A8 (i + 1) c8) rfl) hRd8.out.hR)
        have hK9 := Lib.hid (hK8.out.trans (Keep.set (fun k => k = R) R 102 (.slice A8 (i + 1) c8) rfl))
        have hM9 := Lib.hid (hM.out.set_list (ps ++ [pr]) (.slice A8 (i + 1) c8))
        have hpo9 : Hid (PairsOk (ps ++ [pr])) := Lib.hid (PairsOk.of fun p hp => by
          rcases List.mem_append.1 hp with h1 | h1
          · exact hpo.out.mem p h1
          · rw [List.mem_singleton.1 h1]; exact hPO)
        clear hRd8 hO8 hK8 v102 f102
        go_wp2_with fail
        go_roundw
        case rel => exact ⟨i + 1, ps ++ [pr], A8, c8, _, by omega, by go_num, by simp [hps], hRd9, hM9, hO9, hpo9, hK9, hdr⟩
        case measure => simp [intOf]; omega
      · go_simp
        go_at_call 41
        refine (pair_rd hRdD.out hRdD.out.lt _ (by omega) hz).mono ?_
        rintro e w6 ⟨rfl, hRd6, hK6⟩
        rw [hpr.out, hPAe.out]
        try go_simp
        refine hK _ _ ?_
        clear hK
        have y102 := hRd6.c2 hM.out.list 102 rfl
        have hO7 := (OwnP.keepR hOD.out hK6 hRdD.out.hR).on (boxed w6 (.cells PA 29))
        have hK7 := (hKD.out.trans hK6).trans (Keep.alloc (D := fun k => k = R) (w := w6) (.cells PA 29))
        have hRd7 : RdM (w6.alloc (.cells PA 29)) R b o Q c (45 + 65 * i + 65) F CSr := hRd6.on (boxed _ _)
        have hP7 := hPin.out w6
        have hs7 : w.heap.size ≤ (w6.alloc (.cells PA 29)).heap.size := hK7.size
        clear hK6 hRd6 hRdD hOD hKD d102 f102
        refine wpAny_ready (rs := [5, 8]) (by kernel_rfl) (by simp) ?_
        refine AllReady.cons rfl (fun K hK => ?_) (AllReady.cons rfl (fun K hK => ?_) AllReady.nil)
        · go_simp
          refine hK _ _ ?_
          clear hK
          refine wpAny_ready (rs := [8]) (by kernel_rfl) (by simp) ?_
          refine AllReady.cons rfl (fun K hK => ?_) AllReady.nil
          refine step_build1 w6 rfl _ rfl PA rfl hPs ?_
          refine hK _ _ ?_
          clear hK y102
          generalize w6.alloc (.cells PA 29) = w7 at hO7 hK7 hRd7 hP7 hs7 ⊢
          have z102 := hRd7.c2 hM.out.list 102 rfl
          replace hRd7 := Lib.hid hRd7
          replace hO7 := Lib.hid hO7
          replace hP7 := Lib.hid hP7
          replace hK7 := Lib.hid hK7
          refine wpAny_ready (rs := [9]) (by kernel_rfl) (by simp) ?_
          refine AllReady.cons rfl (fun K hK => ?_) AllReady.nil
          refine step_append_ps w7 rfl _ _ rfl w.heap.size LA i lc ps hps rfl hO7.out (some ⟨w6.heap.size, 0, none⟩) 1 1 [pr] rfl rfl hP7.out (by simpa using hPO) (by simp; omega) hs7 ?_
          intro A8 c8 w8 hO8 hg8
          refine hK _ _ ?_
          clear hK z102
          have hR8 := grewP_box hO7.out hg8 hRd7.out.hR (by decide)
          have hRd8 : RdM w8 R b o Q c (45 + 65 * i + 65) F CSr := hRd7.out.grewP hO7.out hg8 (fun a ha => by have := (hO7.out.ge a ha).1; omega)
          have hK8 : Keep (fun k => k = R) w w8 := keep_grewP hK7.out hO7.out hg8
          have v102 := hRd8.c2 hM.out.list 102 rfl
          have f102 := hRd8.free 102
          replace hRd8 := Lib.hid hRd8
          replace hO8 := Lib.hid hO8
          replace hK8 := Lib.hid hK8
          clear hR8 hO7 hK7 hRd7 hP7
          refine wpAny_take (i := 10) (v := .pointer (some ⟨R, 0, none⟩)) rfl (by kernel_rfl) (by kernel_rfl) (by kernel_rfl) (fun _ _ _ h => h) (Or.inl ⟨by rfl, ?_⟩) ?_
          · intro w
            go_simp
          refine wpAny_take (i := 11) (v := .pointer (some ⟨R, 2, none⟩)) rfl (by kernel_rfl) (by kernel_rfl) (by kernel_rfl) (fun _ _ _ h => h) (Or.inl ⟨by rfl, ?_⟩) ?_
          · intro w
            go_simp
          refine wpAny_take (i := 12) (v := .pointer (some ⟨R, 102, none⟩)) rfl (by kernel_rfl) (by kernel_rfl) (by kernel_rfl) (fun _ _ _ h => h) (Or.inl ⟨by rfl, ?_⟩) ?_
          · intro w
            go_simp
          refine wpAny_ready (rs := [13]) (by kernel_rfl) (by simp) ?_
          refine AllReady.cons rfl (fun K hK => ?_) AllReady.nil
          go_simp
          refine hK _ _ ?_
          clear hK
          refine wpAny_done (by kernel_rfl) ?_ _
          have hRd9 := Lib.hid (hRd8.out.set1 100 (.slice A8 (i + 1) c8) 102 rfl)
          have hO9 := Lib.hid (OwnP.keepR hO8.out (Keep.set (fun k => k = R) R 102 (.slice A8 (i + 1) c8) rfl) hRd8.out.hR)
          have hK9 := Lib.hid (hK8.out.trans (Keep.set (fun k => k = R) R 102 (.slice A8 (i + 1) c8) rfl))
          have hM9 := Lib.hid (hM.out.set_list (ps ++ [pr]) (.slice A8 (i + 1) c8))
          have hpo9 : Hid (PairsOk (ps ++ [pr])) := Lib.hid (PairsOk.of fun p hp => by
            rcases List.mem_append.1 hp with h1 | h1
            · exact hpo.out.mem p h1
            · rw [List.mem_singleton.1 h1]; exact hPO)
          clear hRd8 hO8 hK8 v102 f102
          go_wp2_with fail
          go_roundw
          case rel => exact ⟨i + 1, ps ++ [pr], A8, c8, _, by omega, by go_num, by simp [hps], hRd9, hM9, hO9, hpo9, hK9, hdr⟩
          case measure => simp [intOf]; omega
        · refine step_build1 w6 rfl _ rfl PA rfl hPs ?_
          refine hK _ _ ?_
          clear hK y102
          generalize w6.alloc (.cells PA 29) = w7 at hO7 hK7 hRd7 hP7 hs7 ⊢
          have z102 := hRd7.c2 hM.out.list 102 rfl
          replace hRd7 := Lib.hid hRd7
          replace hO7 := Lib.hid hO7
          replace hP7 := Lib.hid hP7
          replace hK7 := Lib.hid hK7
          refine wpAny_ready (rs := [5]) (by kernel_rfl) (by simp) ?_
          refine AllReady.cons rfl (fun K hK => ?_) AllReady.nil
          go_simp
          refine hK _ _ ?_
          clear hK
          refine wpAny_ready (rs := [9]) (by kernel_rfl) (by simp) ?_
          refine AllReady.cons rfl (fun K hK => ?_) AllReady.nil
          refine step_append_ps w7 rfl _ _ rfl w.heap.size LA i lc ps hps rfl hO7.out (some ⟨w6.heap.size, 0, none⟩) 1 1 [pr] rfl rfl hP7.out (by simpa using hPO) (by simp; omega) hs7 ?_
          intro A8 c8 w8 hO8 hg8
          refine hK _ _ ?_
          clear hK z102
          have hR8 := grewP_box hO7.out hg8 hRd7.out.hR (by decide)
          have hRd8 : RdM w8 R b o Q c (45 + 65 * i + 65) F CSr := hRd7.out.grewP hO7.out hg8 (fun a ha => by have := (hO7.out.ge a ha).1; omega)
          have hK8 : Keep (fun k => k = R) w w8 := keep_grewP hK7.out hO7.out hg8
          have v102 := hRd8.c2 hM.out.list 102 rfl
          have f102 := hRd8.free 102
          replace hRd8 := Lib.hid hRd8
          replace hO8 := Lib.hid hO8
          replace hK8 := Lib.hid hK8
          clear hR8 hO7 hK7 hRd7 hP7
          refine wpAny_take (i := 10) (v := .pointer (some ⟨R, 0, none⟩)) rfl (by kernel_rfl) (by kernel_rfl) (by kernel_rfl) (fun _ _ _ h => h) (Or.inl ⟨by rfl, ?_⟩) ?_
          · intro w
            go_simp
          refine wpAny_take (i := 11) (v := .pointer (some ⟨R, 2, none⟩)) rfl (by kernel_rfl) (by kernel_rfl) (by kernel_rfl) (fun _ _ _ h => h) (Or.inl ⟨by rfl, ?_⟩) ?_
          · intro w
            go_simp
          refine wpAny_take (i := 12) (v := .pointer (some ⟨R, 102, none⟩)) rfl (by kernel_rfl) (by kernel_rfl) (by kernel_rfl) (fun _ _ _ h => h) (Or.inl ⟨by rfl, ?_⟩) ?_
          · intro w
            go_simp
          refine wpAny_ready (rs := [13]) (by kernel_rfl) (by simp) ?_
          refine AllReady.cons rfl (fun K hK => ?_) AllReady.nil
          go_simp
          refine hK _ _ ?_
          clear hK
          refine wpAny_done (by kernel_rfl) ?_ _
          have hRd9 := Lib.hid (hRd8.out.set1 100 (.slice A8 (i + 1) c8) 102 rfl)
          have hO9 := Lib.hid (OwnP.keepR hO8.out (Keep.set (fun k => k = R) R 102 (.slice A8 (i + 1) c8) rfl) hRd8.out.hR)
          have hK9 := Lib.hid (hK8.out.trans (Keep.set (fun k => k = R) R 102 (.slice A8 (i + 1) c8) rfl))
          have hM9 := Lib.hid (hM.out.set_list (ps ++ [pr]) (.slice A8 (i + 1) c8))
          have hpo9 : Hid (PairsOk (ps ++ [pr])) := Lib.hid (PairsOk.of fun p hp => by
            rcases List.mem_append.1 hp with h1 | h1
            · exact hpo.out.mem p h1
            · rw [List.mem_singleton.1 h1]; exact hPO)
          clear hRd8 hO8 hK8 v102 f102
          go_wp2_with fail
          go_roundw
          case rel => exact ⟨i + 1, ps ++ [pr], A8, c8, _, by omega, by go_num, by simp [hps], hRd9, hM9, hO9, hpo9, hK9, hdr⟩
          case measure => simp [intOf]; omega
    · obtain rfl : i = N := by omega
      replace hdr := hdr.out
      rw [Nat.sub_self] at hdr
      have hdr2 : KK (45 + 65 * i) ps = dr := hdr
      rw [← hKK.out] at hdr2
      have hdr3 : textF F (45 + 65 * i) (fun e2 x => k e2 ps x) = dr := hdr2
      unfold textF at hdr3
      replace hdr := Lib.hid hdr3
      clear hdr2 hdr3 hKK
      generalize hat : 45 + 65 * i = at5 at hRd hdr
      replace hat := Lib.hid hat
      have l1 := hRd.out.c1
      have hq0 := hRd.out.hc
      go_wp2_with fail
      by_cases hs : Q < at5 + 4
      · have hP := Lib.hid (takeF_bad hdr.out (by rw [hpl]; exact hs))
        clear hdr
        refine (take_rd_short hRd.out 4 kText _ hs (by omega)).mono ?_
        rintro e w6 ⟨q, rfl, hq, hF, hK6⟩
        have hq2 : w.heap.size ≤ q := Nat.le_trans hK.out.size hq
        have hK7 := Lib.hid (hK.out.trans hK6)
        replace hF := Lib.hid hF
        clear hRd l1 hK hK6
        go_wp2_with fail
        exact ⟨rfl, .inl ⟨_, hP.out, q, rfl, hq2, hF.out, hK7.out⟩⟩
      replace hdr := Lib.hid (takeF_ok hdr.out (by rw [hpl]; exact hs))
      refine (take_rd hRd.out 4 _ _ (by omega)).mono ?_
      rintro e w6 ⟨rfl, hRd6, hK6⟩
      have hsg := hRd6.seg at5 4
      have hsl := segL_len (l := F) (at_ := at5) (n := 4) (by rw [hpl]; omega)
      have hnum := numberOf_any (some ⟨b, o + at5, none⟩) (c - at5) (segL F at5 4) w6 hsg (by omega)
      rw [hsl] at hnum
      have hnlt : numL (segL F at5 4) < 4294967296 := by
        have h := numL_lt (segL F at5 4)
        rw [hsl] at h
        exact h
      generalize numL (segL F at5 4) = nn at hnum hnlt hdr
      have hO6 := Lib.hid (OwnP.keepR hO.out hK6 hRd.out.hR)
      replace hK6 := Lib.hid (hK.out.trans hK6)
      replace hRd6 := Lib.hid hRd6
      clear hRd hK hO l1 hsg hsl
      go_wp2_with fail
      refine Calls.mono (show Calls Tryd.prog 43 #[.slice (some ⟨b, o + at5, none⟩) 4 (c - at5)] w6 _ from hnum) ?_
      rintro e w7 ⟨rfl, rfl⟩
      clear hnum
      go_wp2_with fail
      by_cases hbig : 1048575 < nn
      · have hP := Lib.hid ((ifF_yes hdr.out hbig).symm)
        clear hdr
        refine (need_no kText (at5 : Int) 10 _ _ (decide_eq_false (by omega))).mono ?_
        rintro e w7 ⟨q, rfl, hq, hF, hB7⟩
        have hq2 : w.heap.size ≤ q := Nat.le_trans hK6.out.size hq
        have hK7 := Lib.hid (hK6.out.trans (Keep.of_below (D := fun k => k = R) hB7))
        replace hF := Lib.hid hF
        clear hRd6 hK6 hB7
        go_wp2_with fail
        exact ⟨rfl, .inl ⟨_, hP.out, q, rfl, hq2, hF.out, hK7.out⟩⟩
      replace hdr := Lib.hid (ifF_no hdr.out hbig)
      refine (need_dec (by omega) _ _ _ _).mono ?_
      rintro e w7 ⟨rfl, rfl⟩
      have l1 := hRd6.out.c1
      go_wp2_with fail
      by_cases hs2 : Q < at5 + 4 + nn
      · have hP := Lib.hid (takeF_bad hdr.out (by rw [hpl]; exact hs2))
        clear hdr
        refine (take_rd_short hRd6.out nn kText _ hs2 (by omega)).mono ?_
        rintro e w8 ⟨q, rfl, hq, hF, hK8⟩
        have hq2 : w.heap.size ≤ q := Nat.le_trans hK6.out.size hq
        have hK7 := Lib.hid (hK6.out.trans hK8)
        replace hF := Lib.hid hF
        clear hRd6 l1 hK6 hK8
        go_wp2_with fail
        exact ⟨rfl, .inl ⟨_, hP.out, q, rfl, hq2, hF.out, hK7.out⟩⟩
      replace hdr := Lib.hid (takeF_ok hdr.out (by rw [hpl]; exact hs2))
      refine (take_rd hRd6.out nn _ _ (by omega)).mono ?_
      rintro e w8 ⟨rfl, hRd8, hK8⟩
      have hsg := hRd8.seg (at5 + 4) nn
      have hsl := segL_len (l := F) (at_ := at5 + 4) (n := nn) (by rw [hpl]; omega)
      have hO8 := Lib.hid (OwnP.keepR hO6.out hK8 hRd6.out.hR)
      replace hK8 := Lib.hid (hK6.out.trans hK8)
      have hs8 := hK8.out.size
      obtain ⟨i0, hi0, hz0, hz1, hz2⟩ := info_parts inf5
      rw [Nat.add_assoc] at hRd8
      rw [← Nat.add_assoc] at hsg
      generalize segL F (at5 + 4) nn = tx at hsg hsl hdr
      replace hsg : Hid (Bs w8 (some ⟨b, o + (at5 + 4), none⟩) tx) := Lib.hid (by rw [← Nat.add_assoc]; exact hsg)
      replace hRd8 := Lib.hid hRd8
      clear hRd6 hK6 hO6 l1
      go_wp2_with (at_builtin; go_must (refine wpList_append_bs _ rfl _ _ 22 rfl w8.heap.size i0 Tryd.underlying22 hi0 hz0 hz1 hz2 none 0 0 [] rfl rfl (OwnB.nil _ _) (some ⟨b, o + (at5 + 4), none⟩) nn _ tx hsl rfl hsg.out ?q1 ?q2 ?_))
      case q1 => simp; omega
      case q2 => omega
      intro A9 c9 w9 hO9 hg9 hat9
      have hB9 := below_grew (Below.refl _ _) (OwnB.nil w8 w8.heap.size) (Nat.le_refl _) (Nat.le_refl _) hg9
      have hRd9 := hRd8.out.on hB9
      have hRl := hRd8.out.lt
      have t103 := hRd9.c2 hM.out.text 103 rfl
      have f103 := hRd9.free 103
      have kS : Keep (fun k => k = R) w9 (w9.setCell ⟨R, 103, none⟩ (.slice A9 nn c9)) := Keep.set (fun k => k = R) R 103 (.slice A9 nn c9) rfl
      have hRdZ := hRd9.set1 101 (.slice A9 nn c9) 103 rfl
      have hMZ : MsgC (setRange CSr 101 [.slice A9 nn c9]) { m with list := ps, text := tx } (.slice LA ps.length lc) (.slice A9 tx.length c9) := by
        rw [hps, hsl]
        exact hM.out.set_text tx (.slice A9 nn c9)
      have hOZ := OwnP.keepR (hO8.out.on hB9) kS hRd9.hR
      have hTZ := (hO9.keep kS (fun a ha => by have := (hO9.ge a ha).1; omega)).lower hs8
      have hKZ := hK8.out.trans ((Keep.of_below (D := fun k => k = R) hB9).trans kS)
      rw [← Nat.add_assoc] at hRdZ
      replace hRdZ := Lib.hid hRdZ
      replace hMZ := Lib.hid hMZ
      replace hOZ := Lib.hid hOZ
      replace hTZ := Lib.hid hTZ
      replace hKZ := Lib.hid hKZ
      clear hRd9 hRd8 hB9 hg9 hat9 hO9 kS hK8 hO8
      go_wp2_with fail
      go_end0
      exact .inr ⟨_, ps, tx, hdr.out, _, LA, lc, A9, c9, rfl, hRdZ.out, hMZ.out, hOZ.out, hTZ.out, hpo.out, hKZ.out⟩
end Go.Proofs.YtmnmmabhmedioaaDoor
/- Wire: Decode of a frame whose sum fits: kinds 3. (Printed by gen_dec2.py.) -/
namespace Go.Proofs.YtmnmmabhmedioaaDoor
open Go.RowKit
set_option linter.unusedVariables false
set_option linter.unusedSimpArgs false
set_option maxRecDepth 100000

set_option maxHeartbeats 16000000 in
theorem decode_k3 (b o c : Nat) (kd : UInt8) (body s4 : List UInt8) (w : World) (N L Q : Nat) (hk1 : 1 ≤ nb kd) (hk6 : nb kd ≤ 6) (hN : body.length = N) (hNm : N ≤ 1065189) (h4 : s4.length = 4) (hLd : 14 + N = L) (hQd : 10 + N = Q) (hc : L ≤ c) (hlt : b < w.heap.size) (hkd : nb kd = 3) (hsum4 : s4 = (sha (preL kd body)).take 4) (hb : Bs w (some ⟨b, o, none⟩) (preL kd body ++ s4)) (dr : DR) (hdr : bodyF kd (preL kd body) = dr) :
    Calls Tryd.prog 11 #[.slice (some ⟨b, o, none⟩) L c] w (DecPost w dr) := by
  have hpl : (preL kd body).length = Q := by rw [preL_len]; omega
  unfold bodyF at hdr
  replace hdr := Lib.hid hdr
  replace hb := Lib.hid hb
  go_enter_defers Tryd.func11, Tryd.ntmps11
  go_upto_region 2 with fail
  have hZ : ((w.alloc (.cells Tryd.zeroCells36 36)).alloc (.cells #[.nilIface] 38)).heap[w.heap.size]? = some (.cells Tryd.zeroCells36 36 (0, 0)) := by
    rw [heap_alloc?, if_neg (by simp)]; exact heap_alloc_new w _
  have hE : ((w.alloc (.cells Tryd.zeroCells36 36)).alloc (.cells #[.nilIface] 38)).heap[w.heap.size + 1]? = some (.cells #[.nilIface] 38 (0, 0)) := by
    rw [heap_alloc?, if_pos (by simp)]
  have hB : Below w.heap.size w ((w.alloc (.cells Tryd.zeroCells36 36)).alloc (.cells #[.nilIface] 38)) := later (boxed _ _) (boxed _ _)
  have hsz : ((w.alloc (.cells Tryd.zeroCells36 36)).alloc (.cells #[.nilIface] 38)).heap.size = w.heap.size + 2 := by simp
  generalize ((w.alloc (.cells Tryd.zeroCells36 36)).alloc (.cells #[.nilIface] 38)) = w1 at hZ hE hB hsz ⊢
  have hb1 := hb.out.on hB
  replace hZ := Lib.hid hZ
  replace hE := Lib.hid hE
  go_wp2_with fail
  have hpk := peek_frame b o c kd body s4 w1 N L hk1 hk6 hN hNm h4 hLd hc hb1
  rw [hkd] at hpk
  refine hpk.mono ?_
  rintro e w2 ⟨rfl, md, hw2⟩
  have hb2 : Bs w2 (some ⟨b, o, none⟩) (preL kd body ++ s4) := by rw [hw2]; exact hb1
  have hB2 : Below w.heap.size w w2 := by rw [hw2]; exact below_drewN hB md
  have hs2 : w2.heap.size = w.heap.size + 2 := by rw [hw2]; exact hsz
  have hZ2 : w2.heap[w.heap.size]? = some (.cells Tryd.zeroCells36 36 (0, 0)) := by rw [hw2]; exact hZ.out
  have hE2 : w2.heap[w.heap.size + 1]? = some (.cells #[.nilIface] 38 (0, 0)) := by rw [hw2]; exact hE.out
  have hbp : Bs w2 (some ⟨b, o, none⟩) (preL kd body) := by
    have h := hb2.take Q
    rw [List.take_append_of_le_length (by omega), List.take_of_length_le (by omega)] at h
    exact h
  replace hZ2 := Lib.hid hZ2
  replace hE2 := Lib.hid hE2
  replace hb2 := Lib.hid hb2
  replace hbp := Lib.hid hbp
  replace hB2 := Lib.hid hB2
  have hcQ : (Q : Int) ≤ (c : Int) := by omega
  have hcL : (L : Int) ≤ (c : Int) := by omega
  have hwQ : wrap64 ((L : Int) - 4) = (Q : Int) := by rw [IntWalk.wrap64_in _ ⟨by omega, by omega⟩]; omega
  have hq0 : (0 : Int) ≤ (Q : Int) := by omega
  have hL4 : L - 4 = Q := by omega
  have hL4i : (L : Int) - 4 = (Q : Int) := by omega
  clear hpk hw2 hZ hE hB hsz hb1 hb
  go_wp2_with fail
  refine (need_same _ _ _ _).mono ?_
  rintro e w' ⟨rfl, rfl⟩
  go_wp2_with fail
  refine (need_same _ _ _ _).mono ?_
  rintro e w2 ⟨rfl, rfl⟩
  go_wp2_with fail
  have hsum := sum1_any b o c (preL kd body) w2 (by omega) (by omega) hbp.out (by omega)
  rw [hpl] at hsum
  refine hsum.mono ?_
  rintro e w3 ⟨rfl, hB3⟩
  clear hsum
  rename_i hK
  have hs3 := hB3.size
  have hD := sha_length (preL kd body)
  have hb3 := hb2.out.on hB3
  have hfx : ∀ i, i < 4 → (preL kd body ++ s4).getD (Q + i) 0 = s4.getD i 0 := fun i hi => by
    rw [List.getD_eq_getElem?_getD, List.getElem?_append_right (by omega), hpl, show Q + i - Q = i from by omega, ← List.getD_eq_getElem?_getD]
  have hcl := fun i (hi : i < 4) => hb3.at (Q + i) (by simp [h4]; omega)
  have x0 : w3.cell? ⟨b, o + Q, none⟩ = some (B8 (s4.getD 0 0)) := by rw [← hfx 0 (by omega)]; exact hcl 0 (by omega)
  have x1 : w3.cell? ⟨b, o + Q + 1, none⟩ = some (B8 (s4.getD 1 0)) := by rw [← hfx 1 (by omega)]; exact hcl 1 (by omega)
  have x2 : w3.cell? ⟨b, o + Q + 2, none⟩ = some (B8 (s4.getD 2 0)) := by rw [← hfx 2 (by omega)]; exact hcl 2 (by omega)
  have x3 : w3.cell? ⟨b, o + Q + 3, none⟩ = some (B8 (s4.getD 3 0)) := by rw [← hfx 3 (by omega)]; exact hcl 3 (by omega)
  have hsz : ((sha (preL kd body)).map B8).toArray.size = 64 := by rw [List.size_toArray, List.length_map, hD]
  have hone : ((sha (preL kd body)).map B8).toArray.all (·.oneCell') = true := all_oneCell_toArray one_bytes
  have hget : ∀ i, i < 64 → ((sha (preL kd body)).map B8).toArray[i]? = some (B8 ((sha (preL kd body)).getD i 0)) := fun i hi => by
    rw [List.getElem?_toArray, List.getElem?_map, List.getD_eq_getElem?_getD, List.getElem?_eq_getElem (show i < (sha (preL kd body)).length by omega)]
    rfl
  clear hfx hcl hbp hb2
  replace hb3 := Lib.hid hb3
  have hZ3 := Lib.hid (heap_on hB3 hZ2.out)
  have hE3 := Lib.hid (heap_on hB3 hE2.out)
  have hB33 := Lib.hid (later' hB2.out hB3)
  clear hZ2 hE2 hB2 hB3
  refine hK _ _ ?_
  clear hK
  generalize ((sha (preL kd body)).map B8).toArray = DA at hsz hone hget ⊢
  generalize (sha (preL kd body)) = S at hget hD hsum4
  have hif : (Tryd.prog.info? 97).map (·.size) = some DA.size := by rw [hsz]; kernel_rfl
  refine wpList_value (w' := w3.alloc (.cells z64 97)) rfl (.pointer (some ⟨w3.heap.size, 0, none⟩)) (by kernel_rfl) ?_
  refine wpList_skips (w' := w3.alloc (.cells DA 97)) rfl ?_ ?_
  · have h := run_storeAt_new (P := Tryd.prog) w3 97 z64 DA hif (by rw [hsz]; rfl) hone
    show (Instr.storeAt 97 (.pointer (some ⟨w3.heap.size, 0, none⟩)) (.agg DA) >>= fun _ => pure Next.skip : Sem Next).run Tryd.prog _ = _
    simp only [Sem.run_bind, h, Result.andThen, Sem.run_pure]
  refine wpList_nil ?_
  simp only [Act.put]
  have hDn := heap_alloc_new w3 (.cells DA 97)
  have hB34 := boxed w3 (.cells DA 97)
  have y0 : (w3.alloc (.cells DA 97)).cell? ⟨w3.heap.size, 0, none⟩ = some (B8 (S.getD 0 0)) := cell_of hDn (hget 0 (by omega))
  have y1 : (w3.alloc (.cells DA 97)).cell? ⟨w3.heap.size, 1, none⟩ = some (B8 (S.getD 1 0)) := cell_of hDn (hget 1 (by omega))
  have y2 : (w3.alloc (.cells DA 97)).cell? ⟨w3.heap.size, 2, none⟩ = some (B8 (S.getD 2 0)) := cell_of hDn (hget 2 (by omega))
  have y3 : (w3.alloc (.cells DA 97)).cell? ⟨w3.heap.size, 3, none⟩ = some (B8 (S.getD 3 0)) := cell_of hDn (hget 3 (by omega))
  replace x0 := cell_on hB34 x0
  replace x1 := cell_on hB34 x1
  replace x2 := cell_on hB34 x2
  replace x3 := cell_on hB34 x3
  have hb4 := Lib.hid (hb3.out.on hB34)
  have hZ4 := Lib.hid (heap_on hB34 hZ3.out)
  have hE4 := Lib.hid (heap_on hB34 hE3.out)
  have hB44 := Lib.hid (later' hB33.out hB34)
  have hs4 : (w3.alloc (.cells DA 97)).heap.size = w3.heap.size + 1 := by simp
  clear hDn hB34 hget hone hif hsz hZ3 hE3 hB33 hb3
  generalize w3.alloc (.cells DA 97) = w4 at *
  have hqq : ∀ i, i < 4 → s4.getD i 0 = S.getD i 0 := fun i hi => by rw [hsum4, getD_take _ hi]
  rw [hqq 0 (by omega)] at x0
  rw [hqq 1 (by omega)] at x1
  rw [hqq 2 (by omega)] at x2
  rw [hqq 3 (by omega)] at x3
  clear hqq hD
  clear hsum4
  generalize S.getD 0 0 = q0 at *
  generalize S.getD 1 0 = q1 at *
  generalize S.getD 2 0 = q2 at *
  generalize S.getD 3 0 = q3 at *
  have ha4 := arrAt4
  have he4 := eql4_same q0 q1 q2 q3
  have hc1 : ¬ (c = Q) := by omega
  have hwQ2 : IntKind.i64.wrap (Q : Int) = (Q : Int) := by rw [IntKind.wrap_i64]; omega
  have hc2 : (4 : Int) ≤ ((c - Q : Nat) : Int) := by omega
  have hLQ : L - Q = 4 := by omega
  have hQL : (Q : Int) ≤ (L : Int) := by omega
  go_wp2_with fail
  go_quiet ((go_at_call 38; exact Calls.quiet_of_same (need_same _ _ _ _)))
  have hb5 : Bs (w4.drewN nq) (some ⟨b, o, none⟩) (preL kd body) := by
    have h := (Bs.drewN hb4.out nq).take Q
    rw [List.take_append_of_le_length (by omega), List.take_of_length_le (by omega)] at h
    exact h
  have hFr5 : FrD w (w4.drewN nq) := ⟨hZ4.out, hE4.out, below_drewN hB44.out nq⟩
  have hs5 : w.heap.size + 2 ≤ (w4.drewN nq).heap.size := by simp only [World.heap_drewN]; omega
  clear hb4 hZ4 hE4 hB44 hs4 x0 x1 x2 x3 y0 y1 y2 y3 he4 ha4
  generalize w4.drewN nq = w5 at hb5 hFr5 hs5 ⊢
  replace hb5 := Lib.hid hb5
  replace hFr5 := Lib.hid hFr5
  go_upto_region 8 with fail
  have hRd := RdM.made w5 b o Q c (preL kd body) hb5.out hpl (by omega) (by omega) (by omega) (by omega)
  have hFr := hFr5.out.on (boxed w5 (.cells ((Tryd.zeroCells107.setIfInBounds 0 (.slice (some ⟨b, o, none⟩) Q c)).setIfInBounds 1 (.int .i64 10)) 107))
  have hR2 : w.heap.size + 2 ≤ w5.heap.size := hs5
  clear hb5 hFr5 hs5 hcQ hcL hwQ hq0 hL4 hL4i hwQ2 hc2 hLQ hQL hc1
  generalize hRe : w5.heap.size = R at hRd hR2 ⊢
  generalize w5.alloc (.cells ((Tryd.zeroCells107.setIfInBounds 0 (.slice (some ⟨b, o, none⟩) Q c)).setIfInBounds 1 (.int .i64 10)) 107) = w6 at hRd hFr ⊢
  have hRne : w.heap.size + 2 ≤ R := hR2
  have hM := Lib.hid zC_msg
  obtain ⟨CS0, hCS⟩ : ∃ x, x = Tryd.zeroCells36 := ⟨_, rfl⟩
  rw [← hCS] at hRd hM
  clear hCS
  have l2 := hRd.c2 hM.out.kind 2 rfl
  have lf := hRd.free 2
  replace hRd := Lib.hid hRd
  replace hFr := Lib.hid hFr
  go_upto_region 9 with fail
  clear l2 lf
  have hRd2 := hRd.out.set1 0 (.int .i64 3) 2 rfl
  have hFr2 := hFr.out.keepR (Keep.set (fun k => k = R) R 2 (.int .i64 3) rfl) hRne
  have hM2 := hM.out.set_kind 3
  clear hRd hFr hM
  generalize (w6.setCell ⟨R, 2, none⟩ (.int .i64 3)) = w7 at hRd2 hFr2 ⊢
  obtain ⟨CS7, hCS2⟩ : ∃ x, x = setRange CS0 0 [.int .i64 3] := ⟨_, rfl⟩
  rw [← hCS2] at hRd2 hM2
  clear hCS2 CS0
  have l1 := hRd2.c1
  have hRd := Lib.hid hRd2
  have hFr := Lib.hid hFr2
  have hM := Lib.hid hM2
  clear hRd2 hFr2 hM2
  go_wp2_with fail
  by_cases hltw7 : Q < 10 + 32
  · have hP := Lib.hid (takeF_bad hdr.out (by rw [hpl]; exact hltw7))
    clear hdr
    refine (take_rd_short hRd.out 32 kSession _ hltw7 (by omega)).mono ?_
    rintro e w8 ⟨q, rfl, hq, hF, hK⟩
    have hFr := hFr.out.keepR hK hRne
    have hq2 : w.heap.size + 2 ≤ q := Nat.le_trans (Nat.le_trans hRne (Nat.le_of_lt hRd.out.lt)) hq
    replace hF := Lib.hid hF
    clear hRd hM hK hq
    obtain ⟨hZ3, hE3, hB33⟩ := hFr
    have ce : w8.cell? ⟨w.heap.size + 1, 0, none⟩ = some .nilIface := cell_of hE3 rfl
    have cf : w8.frozen? ⟨w.heap.size + 1, 0, none⟩ = false := free_of hE3
    replace hE3 := Lib.hid hE3
    replace hZ3 := Lib.hid hZ3
    replace hB33 := Lib.hid hB33
    go_wp2_with fail
    have hEf := cell_of (heap_set (o := 0) hE3.out (errOf q)) (off := 0) rfl
    have hKf : Keep (fun k => k = w.heap.size + 1) w8 (w8.setCell ⟨w.heap.size + 1, 0, none⟩ (errOf q)) := Keep.set (fun k => k = w.heap.size + 1) _ _ _ rfl
    have hZf := hKf.heap (show ¬ w.heap.size = w.heap.size + 1 by omega) hZ3.out
    have hFf := hKf.heap (show ¬ q = w.heap.size + 1 by omega) hF.out
    have hBf := below_keep hB33.out hKf (fun i e => by omega) hB33.out.size
    have hif : (Tryd.prog.info? 36).map (·.size) = some Tryd.zeroCells36.size := by kernel_rfl
    have hL := run_loadVar_row (P := Tryd.prog) _ w.heap.size 36 36 _ (0, 0) _ hZf Tryd.underlying36 rfl hif
    have hL2 : (loadVar 38 ⟨w.heap.size + 1, 0, none⟩).run Tryd.prog (w8.setCell ⟨w.heap.size + 1, 0, none⟩ (errOf q)) = .ok (errOf q) (w8.setCell ⟨w.heap.size + 1, 0, none⟩ (errOf q)) := by simp [go_sem, hEf]
    refine leaves_cons (f := 36) (args := #[.pointer (some ⟨w.heap.size + 1, 0, none⟩)]) (by simp) (by simp [go_sem]) ?_
    refine (caught_panicking ⟨w.heap.size + 1, 0, none⟩ q .nilIface [] _ ce cf).mono ?_
    rintro e u' w'' ⟨rfl, rfl, rfl⟩
    exact ⟨_, results_cell2 rfl _ _ ⟨w.heap.size, 0, none⟩ ⟨w.heap.size + 1, 0, none⟩ (.agg Tryd.zeroCells36) (errOf q) rfl rfl hL hL2, DecPost.bad hP.out ⟨q, rfl, hFf, hBf⟩⟩

  replace hdr := Lib.hid (takeF_ok hdr.out (by rw [hpl]; omega))
  refine (take_rd hRd.out 32 _ _ (by omega)).mono ?_
  rintro e w8 ⟨rfl, hRd2, hK⟩
  replace hFr := Lib.hid (hFr.out.keepR hK hRne)
  replace hRd : Hid (RdM w8 R b o Q c 42 (preL kd body) CS7) := Lib.hid hRd2
  have hsl := segL_len (l := preL kd body) (at_ := 10) (n := 32) (by rw [hpl]; omega)
  clear hRd2 hK l1
  have hss := hRd.out.seg 10 32
  obtain ⟨sg, hsgd⟩ : ∃ x, x = segL (preL kd body) 10 32 := ⟨_, rfl⟩
  rw [← hsgd] at hss hsl hdr
  clear hsgd
  rename_i hK
  refine hK _ _ ?_
  clear hK
  refine wpList_value (w' := w8) rfl (.pointer (some ⟨b, o + 10, none⟩)) (by
    show (Instr.arrayAt 26 (.slice (some ⟨b, o + 10, none⟩) 32 (c - 10)) >>= fun v => pure (Next.value v) : Sem Next).run Tryd.prog w8 = _
    simp only [Sem.run_bind, arrAt32, Result.andThen, Sem.run_pure]) ?_
  have hif : (Tryd.prog.info? 26).map (·.size) = some (sg.map B8).length := by rw [List.length_map, hsl]; kernel_rfl
  refine wpList_load_mid rfl _ _ rfl b (o + 10) rfl (sg.map B8) _ hss.range Tryd.underlying26 rfl hif ?_
  have hif2 : (Tryd.prog.info? 26).map (·.size) = some (sg.map B8).toArray.size := by rw [List.size_toArray]; exact hif
  have hone : (sg.map B8).toArray.all (·.oneCell') = true := all_oneCell_toArray one_bytes
  have hsL : (sg.map B8).toArray.toList = sg.map B8 := rfl
  have hssz : (sg.map B8).toArray.size = 32 := by simp [hsl]
  generalize (sg.map B8).toArray = SA at hif2 hone hsL hssz ⊢
  have hth := hRd.out.there 3 SA.size (by rw [hM.out.size, hssz]; omega)
  clear hss hif
  go_upto_region 10 with (refine wpList_store_mid rfl _ _ _ rfl R 3 SA rfl rfl hth hif2 hone ?_)
  try rw [hsL]
  clear hth hif2 hone hsL hssz
  have hRd2 := hRd.out.setN 1 (sg.map B8) 3 rfl
  have hFr2 := hFr.out.keepR (setCells_keep w8 R 3 (sg.map B8)) hRne
  have hM2 := hM.out.set_session sg hsl
  clear hRd hFr hM
  generalize (w8.setCells R 3 (sg.map B8)) = w9 at hRd2 hFr2 ⊢
  obtain ⟨CS9, hCS2⟩ : ∃ x, x = setRange CS7 1 (sg.map B8) := ⟨_, rfl⟩
  rw [← hCS2] at hRd2 hM2
  clear hCS2 CS7
  have l1 := hRd2.c1
  have hRd := Lib.hid hRd2
  have hFr := Lib.hid hFr2
  have hM := Lib.hid hM2
  clear hRd2 hFr2 hM2
  go_wp2_with fail
  by_cases hltw9 : Q < 42 + 1
  · have hP := Lib.hid (takeF_bad hdr.out (by rw [hpl]; exact hltw9))
    clear hdr
    refine (take_rd_short hRd.out 1 kFrom _ hltw9 (by omega)).mono ?_
    rintro e w10 ⟨q, rfl, hq, hF, hK⟩
    have hFr := hFr.out.keepR hK hRne
    have hq2 : w.heap.size + 2 ≤ q := Nat.le_trans (Nat.le_trans hRne (Nat.le_of_lt hRd.out.lt)) hq
    replace hF := Lib.hid hF
    clear hRd hM hK hq
    obtain ⟨hZ3, hE3, hB33⟩ := hFr
    have ce : w10.cell? ⟨w.heap.size + 1, 0, none⟩ = some .nilIface := cell_of hE3 rfl
    have cf : w10.frozen? ⟨w.heap.size + 1, 0, none⟩ = false := free_of hE3
    replace hE3 := Lib.hid hE3
    replace hZ3 := Lib.hid hZ3
    replace hB33 := Lib.hid hB33
    go_wp2_with fail
    have hEf := cell_of (heap_set (o := 0) hE3.out (errOf q)) (off := 0) rfl
    have hKf : Keep (fun k => k = w.heap.size + 1) w10 (w10.setCell ⟨w.heap.size + 1, 0, none⟩ (errOf q)) := Keep.set (fun k => k = w.heap.size + 1) _ _ _ rfl
    have hZf := hKf.heap (show ¬ w.heap.size = w.heap.size + 1 by omega) hZ3.out
    have hFf := hKf.heap (show ¬ q = w.heap.size + 1 by omega) hF.out
    have hBf := below_keep hB33.out hKf (fun i e => by omega) hB33.out.size
    have hif : (Tryd.prog.info? 36).map (·.size) = some Tryd.zeroCells36.size := by kernel_rfl
    have hL := run_loadVar_row (P := Tryd.prog) _ w.heap.size 36 36 _ (0, 0) _ hZf Tryd.underlying36 rfl hif
    have hL2 : (loadVar 38 ⟨w.heap.size + 1, 0, none⟩).run Tryd.prog (w10.setCell ⟨w.heap.size + 1, 0, none⟩ (errOf q)) = .ok (errOf q) (w10.setCell ⟨w.heap.size + 1, 0, none⟩ (errOf q)) := by simp [go_sem, hEf]
    refine leaves_cons (f := 36) (args := #[.pointer (some ⟨w.heap.size + 1, 0, none⟩)]) (by simp) (by simp [go_sem]) ?_
    refine (caught_panicking ⟨w.heap.size + 1, 0, none⟩ q .nilIface [] _ ce cf).mono ?_
    rintro e u' w'' ⟨rfl, rfl, rfl⟩
    exact ⟨_, results_cell2 rfl _ _ ⟨w.heap.size, 0, none⟩ ⟨w.heap.size + 1, 0, none⟩ (.agg Tryd.zeroCells36) (errOf q) rfl rfl hL hL2, DecPost.bad hP.out ⟨q, rfl, hFf, hBf⟩⟩

  replace hdr := Lib.hid (takeF_ok hdr.out (by rw [hpl]; omega))
  refine (take_rd hRd.out 1 _ _ (by omega)).mono ?_
  rintro e w10 ⟨rfl, hRd2, hK⟩
  replace hFr := Lib.hid (hFr.out.keepR hK hRne)
  replace hRd : Hid (RdM w10 R b o Q c 43 (preL kd body) CS9) := Lib.hid hRd2
  have hsl := segL_len (l := preL kd body) (at_ := 42) (n := 1) (by rw [hpl]; omega)
  clear hRd2 hK l1
  have x0 := hRd.out.cell (j := 42) (by omega) (o + 42) rfl
  have e0 : (segL (preL kd body) 42 1).getD 0 0 = (preL kd body).getD 42 0 := segL_getD _ _ _ 0 (by decide)
  rw [e0] at hdr
  generalize (preL kd body).getD 42 0 = y10 at x0 hdr
  clear hsl e0
  have m0 := hRd.out.c2 hM.out.from_ 35 rfl
  have mf := hRd.out.free 35
  have hwf : IntKind.i64.wrap (nb y10) = nb y10 := by have := nb_bd y10; rw [IntKind.wrap_i64]; omega
  have hwf2 : wrap64 (nb y10) = nb y10 := by have := nb_bd y10; exact IntWalk.wrap64_in _ ⟨by omega, by omega⟩
  go_upto_region 11 with fail
  clear x0 m0 mf hwf hwf2
  have hRd2 := hRd.out.set1 33 (.int .i64 (nb y10)) 35 rfl
  have hFr2 := hFr.out.keepR (Keep.set (fun k => k = R) R 35 (.int .i64 (nb y10)) rfl) hRne
  have hM2 := hM.out.set_from_ (nb y10)
  clear hRd hFr hM
  generalize (w10.setCell ⟨R, 35, none⟩ (.int .i64 (nb y10))) = w11 at hRd2 hFr2 ⊢
  obtain ⟨CS11, hCS2⟩ : ∃ x, x = setRange CS9 33 [.int .i64 (nb y10)] := ⟨_, rfl⟩
  rw [← hCS2] at hRd2 hM2
  clear hCS2 CS9
  have l1 := hRd2.c1
  have hRd := Lib.hid hRd2
  have hFr := Lib.hid hFr2
  have hM := Lib.hid hM2
  clear hRd2 hFr2 hM2
  go_wp2_with fail
  by_cases hltw11 : Q < 43 + 1
  · have hP := Lib.hid (takeF_bad hdr.out (by rw [hpl]; exact hltw11))
    clear hdr
    refine (take_rd_short hRd.out 1 kTo _ hltw11 (by omega)).mono ?_
    rintro e w12 ⟨q, rfl, hq, hF, hK⟩
    have hFr := hFr.out.keepR hK hRne
    have hq2 : w.heap.size + 2 ≤ q := Nat.le_trans (Nat.le_trans hRne (Nat.le_of_lt hRd.out.lt)) hq
    replace hF := Lib.hid hF
    clear hRd hM hK hq
    obtain ⟨hZ3, hE3, hB33⟩ := hFr
    have ce : w12.cell? ⟨w.heap.size + 1, 0, none⟩ = some .nilIface := cell_of hE3 rfl
    have cf : w12.frozen? ⟨w.heap.size + 1, 0, none⟩ = false := free_of hE3
    replace hE3 := Lib.hid hE3
    replace hZ3 := Lib.hid hZ3
    replace hB33 := Lib.hid hB33
    go_wp2_with fail
    have hEf := cell_of (heap_set (o := 0) hE3.out (errOf q)) (off := 0) rfl
    have hKf : Keep (fun k => k = w.heap.size + 1) w12 (w12.setCell ⟨w.heap.size + 1, 0, none⟩ (errOf q)) := Keep.set (fun k => k = w.heap.size + 1) _ _ _ rfl
    have hZf := hKf.heap (show ¬ w.heap.size = w.heap.size + 1 by omega) hZ3.out
    have hFf := hKf.heap (show ¬ q = w.heap.size + 1 by omega) hF.out
    have hBf := below_keep hB33.out hKf (fun i e => by omega) hB33.out.size
    have hif : (Tryd.prog.info? 36).map (·.size) = some Tryd.zeroCells36.size := by kernel_rfl
    have hL := run_loadVar_row (P := Tryd.prog) _ w.heap.size 36 36 _ (0, 0) _ hZf Tryd.underlying36 rfl hif
    have hL2 : (loadVar 38 ⟨w.heap.size + 1, 0, none⟩).run Tryd.prog (w12.setCell ⟨w.heap.size + 1, 0, none⟩ (errOf q)) = .ok (errOf q) (w12.setCell ⟨w.heap.size + 1, 0, none⟩ (errOf q)) := by simp [go_sem, hEf]
    refine leaves_cons (f := 36) (args := #[.pointer (some ⟨w.heap.size + 1, 0, none⟩)]) (by simp) (by simp [go_sem]) ?_
    refine (caught_panicking ⟨w.heap.size + 1, 0, none⟩ q .nilIface [] _ ce cf).mono ?_
    rintro e u' w'' ⟨rfl, rfl, rfl⟩
    exact ⟨_, results_cell2 rfl _ _ ⟨w.heap.size, 0, none⟩ ⟨w.heap.size + 1, 0, none⟩ (.agg Tryd.zeroCells36) (errOf q) rfl rfl hL hL2, DecPost.bad hP.out ⟨q, rfl, hFf, hBf⟩⟩

  replace hdr := Lib.hid (takeF_ok hdr.out (by rw [hpl]; omega))
  refine (take_rd hRd.out 1 _ _ (by omega)).mono ?_
  rintro e w12 ⟨rfl, hRd2, hK⟩
  replace hFr := Lib.hid (hFr.out.keepR hK hRne)
  replace hRd : Hid (RdM w12 R b o Q c 44 (preL kd body) CS11) := Lib.hid hRd2
  have hsl := segL_len (l := preL kd body) (at_ := 43) (n := 1) (by rw [hpl]; omega)
  clear hRd2 hK l1
  have x0 := hRd.out.cell (j := 43) (by omega) (o + 43) rfl
  have e0 : (segL (preL kd body) 43 1).getD 0 0 = (preL kd body).getD 43 0 := segL_getD _ _ _ 0 (by decide)
  rw [e0] at hdr
  generalize (preL kd body).getD 43 0 = y12 at x0 hdr
  clear hsl e0
  have m0 := hRd.out.c2 hM.out.to_ 36 rfl
  have mf := hRd.out.free 36
  have hwf : IntKind.i64.wrap (nb y12) = nb y12 := by have := nb_bd y12; rw [IntKind.wrap_i64]; omega
  have hwf2 : wrap64 (nb y12) = nb y12 := by have := nb_bd y12; exact IntWalk.wrap64_in _ ⟨by omega, by omega⟩
  go_upto_region 12 with fail
  clear x0 m0 mf hwf hwf2
  have hRd2 := hRd.out.set1 34 (.int .i64 (nb y12)) 36 rfl
  have hFr2 := hFr.out.keepR (Keep.set (fun k => k = R) R 36 (.int .i64 (nb y12)) rfl) hRne
  have hM2 := hM.out.set_to_ (nb y12)
  clear hRd hFr hM
  generalize (w12.setCell ⟨R, 36, none⟩ (.int .i64 (nb y12))) = w13 at hRd2 hFr2 ⊢
  obtain ⟨CS13, hCS2⟩ : ∃ x, x = setRange CS11 34 [.int .i64 (nb y12)] := ⟨_, rfl⟩
  rw [← hCS2] at hRd2 hM2
  clear hCS2 CS11
  have l1 := hRd2.c1
  have hRd := Lib.hid hRd2
  have hFr := Lib.hid hFr2
  have hM := Lib.hid hM2
  clear hRd2 hFr2 hM2
  replace hdr := hdr.out
  rw [hkd] at hdr
  unfold restF at hdr
  rw [if_neg (by decide), if_pos rfl] at hdr
  replace hdr := Lib.hid hdr
  have hbl : b < w13.heap.size := by
    have h1 := hFr.out.hB.size
    omega
  have hRl := hRd.out.lt
  go_wp2_with fail
  refine (list_rd hRd.out hM.out rfl hbl _ dr (show listK (preL kd body) _ = dr from hdr.out)).mono ?_
  rintro e w14 (⟨f, hP, q, rfl, hq, hF, hK⟩ | ⟨e2, ps, tx, hdr2, CS14, LA, lc, TA, tc, rfl, hRd2, hM2, hOP, hOB, hpo, hK⟩)
  · replace hP := Lib.hid hP
    clear hdr
    have hFr := hFr.out.keepR hK hRne
    have hq2 : w.heap.size + 2 ≤ q := Nat.le_trans (Nat.le_trans hRne (Nat.le_of_lt hRd.out.lt)) hq
    replace hF := Lib.hid hF
    clear hRd hM hK hq
    obtain ⟨hZ3, hE3, hB33⟩ := hFr
    have ce : w14.cell? ⟨w.heap.size + 1, 0, none⟩ = some .nilIface := cell_of hE3 rfl
    have cf : w14.frozen? ⟨w.heap.size + 1, 0, none⟩ = false := free_of hE3
    replace hE3 := Lib.hid hE3
    replace hZ3 := Lib.hid hZ3
    replace hB33 := Lib.hid hB33
    go_wp2_with fail
    have hEf := cell_of (heap_set (o := 0) hE3.out (errOf q)) (off := 0) rfl
    have hKf : Keep (fun k => k = w.heap.size + 1) w14 (w14.setCell ⟨w.heap.size + 1, 0, none⟩ (errOf q)) := Keep.set (fun k => k = w.heap.size + 1) _ _ _ rfl
    have hZf := hKf.heap (show ¬ w.heap.size = w.heap.size + 1 by omega) hZ3.out
    have hFf := hKf.heap (show ¬ q = w.heap.size + 1 by omega) hF.out
    have hBf := below_keep hB33.out hKf (fun i e => by omega) hB33.out.size
    have hif : (Tryd.prog.info? 36).map (·.size) = some Tryd.zeroCells36.size := by kernel_rfl
    have hL := run_loadVar_row (P := Tryd.prog) _ w.heap.size 36 36 _ (0, 0) _ hZf Tryd.underlying36 rfl hif
    have hL2 : (loadVar 38 ⟨w.heap.size + 1, 0, none⟩).run Tryd.prog (w14.setCell ⟨w.heap.size + 1, 0, none⟩ (errOf q)) = .ok (errOf q) (w14.setCell ⟨w.heap.size + 1, 0, none⟩ (errOf q)) := by simp [go_sem, hEf]
    refine leaves_cons (f := 36) (args := #[.pointer (some ⟨w.heap.size + 1, 0, none⟩)]) (by simp) (by simp [go_sem]) ?_
    refine (caught_panicking ⟨w.heap.size + 1, 0, none⟩ q .nilIface [] _ ce cf).mono ?_
    rintro e u' w'' ⟨rfl, rfl, rfl⟩
    exact ⟨_, results_cell2 rfl _ _ ⟨w.heap.size, 0, none⟩ ⟨w.heap.size + 1, 0, none⟩ (.agg Tryd.zeroCells36) (errOf q) rfl rfl hL hL2, DecPost.bad hP.out ⟨q, rfl, hFf, hBf⟩⟩

  replace hOP := hOP.lower (B := w.heap.size + 2) (by omega)
  replace hOB := hOB.lower (B := w.heap.size + 2) (by omega)
  have hFr2 := hFr.out.keepR hK hRne
  have l1 := hRd2.c1
  replace hRd := Lib.hid hRd2
  replace hFr := Lib.hid hFr2
  replace hM := Lib.hid hM2
  replace hdr := Lib.hid hdr2
  replace hOP := Lib.hid hOP
  replace hOB := Lib.hid hOB
  replace hpo := Lib.hid hpo
  clear hRd2 hFr2 hM2 hdr2 hK hbl hRl CS13
  have l0 := hRd.out.c0
  by_cases hT : ¬ (e2 = Q)
  · have hP := Lib.hid (tailF_bad hdr.out (by rw [hpl]; exact hT))
    clear hdr
    have hq3 : w.heap.size + 2 ≤ w14.drew.heap.size := Nat.le_trans hRne (Nat.le_of_lt hRd.out.lt)
    have hFr2 : FrD w w14.drew := hFr.out.on (Below.refl _ _).drew
    clear hRd hM hFr
    go_wp2_with fail
    go_still_tail 14, (by kernel_rfl)
    change wpList _ _ _ _ _ w14.drew
    generalize w14.drew = w15 at hFr2 hq3 ⊢
    clear l0 l1
    have hFr := Lib.hid hFr2
    clear hFr2
    go_wp2_with fail
    refine (need_no kTail e2 104 _ _ (decide_eq_false (by omega))).mono ?_
    rintro e w16 ⟨q, rfl, hq, hF, hBn⟩
    replace hFr := hFr.out.on hBn
    have hq2 : w.heap.size + 2 ≤ q := Nat.le_trans hq3 hq
    replace hF := Lib.hid hF
    clear hBn hq hq3
    obtain ⟨hZ3, hE3, hB33⟩ := hFr
    have ce : w16.cell? ⟨w.heap.size + 1, 0, none⟩ = some .nilIface := cell_of hE3 rfl
    have cf : w16.frozen? ⟨w.heap.size + 1, 0, none⟩ = false := free_of hE3
    replace hE3 := Lib.hid hE3
    replace hZ3 := Lib.hid hZ3
    replace hB33 := Lib.hid hB33
    go_wp2_with fail
    have hEf := cell_of (heap_set (o := 0) hE3.out (errOf q)) (off := 0) rfl
    have hKf : Keep (fun k => k = w.heap.size + 1) w16 (w16.setCell ⟨w.heap.size + 1, 0, none⟩ (errOf q)) := Keep.set (fun k => k = w.heap.size + 1) _ _ _ rfl
    have hZf := hKf.heap (show ¬ w.heap.size = w.heap.size + 1 by omega) hZ3.out
    have hFf := hKf.heap (show ¬ q = w.heap.size + 1 by omega) hF.out
    have hBf := below_keep hB33.out hKf (fun i e => by omega) hB33.out.size
    have hif : (Tryd.prog.info? 36).map (·.size) = some Tryd.zeroCells36.size := by kernel_rfl
    have hL := run_loadVar_row (P := Tryd.prog) _ w.heap.size 36 36 _ (0, 0) _ hZf Tryd.underlying36 rfl hif
    have hL2 : (loadVar 38 ⟨w.heap.size + 1, 0, none⟩).run Tryd.prog (w16.setCell ⟨w.heap.size + 1, 0, none⟩ (errOf q)) = .ok (errOf q) (w16.setCell ⟨w.heap.size + 1, 0, none⟩ (errOf q)) := by simp [go_sem, hEf]
    refine leaves_cons (f := 36) (args := #[.pointer (some ⟨w.heap.size + 1, 0, none⟩)]) (by simp) (by simp [go_sem]) ?_
    refine (caught_panicking ⟨w.heap.size + 1, 0, none⟩ q .nilIface [] _ ce cf).mono ?_
    rintro e u' w'' ⟨rfl, rfl, rfl⟩
    exact ⟨_, results_cell2 rfl _ _ ⟨w.heap.size, 0, none⟩ ⟨w.heap.size + 1, 0, none⟩ (.agg Tryd.zeroCells36) (errOf q) rfl rfl hL hL2, DecPost.bad hP.out ⟨q, rfl, hFf, hBf⟩⟩

  rw [Classical.not_not] at hT
  have hP := Lib.hid (tailF_ok hdr.out (by rw [hpl]; exact hT))
  clear hdr
  subst hT
  go_wp2_with fail
  go_quiet ((go_at_call 38; exact Calls.quiet_of_same (need_same _ _ _ _)))
  replace hRd := Lib.hid (hRd.out.drewN nq)
  replace hFr := hFr.out.on (below_drewN (Below.refl _ _) nq)
  replace hOP : OwnP (w14.drewN nq) (w.heap.size + 2) LA lc ps := hOP.out
  replace hOB : OwnB (w14.drewN nq) (w.heap.size + 2) TA tc tx := hOB.out
  clear l0 l1
  generalize w14.drewN nq = w15 at hRd hFr hOP hOB ⊢
  obtain ⟨hZq, hEq, hBq⟩ := hFr
  go_upto_region 28 with fail
  have hrng : ∀ j v, CS14[j]? = some v → w15.cell? ⟨R, 2 + j, none⟩ = some v := fun j v h => hRd.out.c2 h _ rfl
  have hif : (Tryd.prog.info? 36).map (·.size) = some CS14.size := by rw [hM.out.size]; kernel_rfl
  have hz36 : Tryd.zeroCells36.size = CS14.size := by rw [hM.out.size]; exact zC_size
  have hone : CS14.all (·.oneCell') = true := hM.out.one rfl rfl
  have hsW := setRow_keep w15 w.heap.size CS14
  have hE18 := hsW.heap (show ¬ w.heap.size + 1 = w.heap.size by omega) hEq
  have hD18 := setRow_heap w15 w.heap.size _ CS14 _ _ hZq
  have hB18 := below_keep hBq hsW (fun i e => by omega) hBq.size
  have ge1 : (w15.setRow w.heap.size CS14).cell? ⟨w.heap.size + 1, 0, none⟩ = some .nilIface := cell_of hE18 rfl
  have gf1 : (w15.setRow w.heap.size CS14).frozen? ⟨w.heap.size + 1, 0, none⟩ = false := free_of hE18
  have hOP2 := Lib.hid (hOP.keep hsW (fun a ha => by have := (hOP.ge a ha).1; omega))
  have hOB2 := Lib.hid (hOB.keep hsW (fun a ha => by have := (hOB.ge a ha).1; omega))
  clear hOP hOB
  replace hrng := Lib.hid hrng
  replace hD18 := Lib.hid hD18
  replace hB18 := Lib.hid hB18
  replace hE18 := Lib.hid hE18
  replace hZq := Lib.hid hZq
  clear hEq hBq hsW hRd
  go_wp2_with (first | (refine wpList_loadM _ rfl _ _ rfl R 2 rfl CS14 hrng.out _ Tryd.underlying36 rfl hif ?_) | (refine wpList_storeW _ rfl _ _ _ rfl w.heap.size CS14 rfl rfl _ _ hZq.out hif hz36 hone ?_))
  have hKz : Keep (fun k => k = w.heap.size + 1) (w15.setRow w.heap.size CS14) ((w15.setRow w.heap.size CS14).setCell ⟨w.heap.size + 1, 0, none⟩ .nilIface) := Keep.set _ (w.heap.size + 1) 0 .nilIface rfl
  have hDz := hKz.heap (show ¬ w.heap.size = w.heap.size + 1 by omega) hD18.out
  have hEz : ((w15.setRow w.heap.size CS14).setCell ⟨w.heap.size + 1, 0, none⟩ .nilIface).cell? ⟨w.heap.size + 1, 0, none⟩ = some .nilIface := cell_of (heap_set hE18.out _) rfl
  have hBz := hB18.out.setCell (p := ⟨w.heap.size + 1, 0, none⟩) (Nat.le_succ _) .nilIface
  have hOP3 := (hOP2.out.keep hKz (fun a ha => by have := (hOP2.out.ge a ha).1; omega)).lower (B := w.heap.size) (by omega)
  have hOB3 := (hOB2.out.keep hKz (fun a ha => by have := (hOB2.out.ge a ha).1; omega)).lower (B := w.heap.size) (by omega)
  replace hOP3 := Lib.hid hOP3
  replace hOB3 := Lib.hid hOB3
  clear hOP2 hOB2
  generalize (w15.setRow w.heap.size CS14).setCell ⟨w.heap.size + 1, 0, none⟩ .nilIface = wf at *
  have hL := run_loadVar_row (P := Tryd.prog) wf w.heap.size 36 36 CS14 (0, 0) _ hDz Tryd.underlying36 rfl hif
  have hL2 : (loadVar 38 ⟨w.heap.size + 1, 0, none⟩).run Tryd.prog wf = .ok .nilIface wf := by simp [go_sem, hEz]
  refine leaves_cons (f := 36) (args := #[.pointer (some ⟨w.heap.size + 1, 0, none⟩)]) (by simp) (by simp [go_sem]) ?_
  refine (caught_idle ⟨w.heap.size + 1, 0, none⟩ _).mono ?_
  rintro e u' w'' ⟨rfl, rfl, rfl⟩
  clear hDz
  exact ⟨_, results_cell2 rfl _ _ ⟨w.heap.size, 0, none⟩ ⟨w.heap.size + 1, 0, none⟩ (.agg CS14) .nilIface rfl rfl hL hL2, DecPost.ok hP.out ⟨CS14, LA, lc, TA, tc, rfl, hM.out, hOP3.out, hOB3.out, hpo.out, hBz⟩⟩

end Go.Proofs.YtmnmmabhmedioaaDoor
/- Wire: plain law: what is encoded is decoded as the same; what is decoded is encoded to the same bytes. -/
namespace Go.Proofs.YtmnmmabhmedioaaDoor
set_option linter.unusedVariables false
set_option linter.unusedSimpArgs false

theorem drop_split (F : List UInt8) (a n : Nat) : F.drop a = segL F a n ++ F.drop (a + n) := by
  unfold segL
  rw [← List.drop_drop, List.take_append_drop]
theorem u8_nb (x : UInt8) : u8 (nb x) = x := by
  unfold u8 nb
  simp
theorem pairL_of {l : List UInt8} (hl : l.length = 65) : pairL (pairOf l) = l := by
  unfold pairL pairOf
  simp only [u8_nb]
  match l, hl with
  | x :: r, h =>
    have hr : r.length = 64 := by simpa using h
    simp only [List.getD_cons_zero, segL, List.drop_succ_cons, List.drop_zero]
    congr 1
    rw [show List.take 32 (List.drop 32 r) = List.drop 32 r from List.take_of_length_le (by simp [hr])]
    exact List.take_append_drop 32 r
theorem pairOf_L {p : Pair} (hp : PairOk p) (hi : isId p.id = true) : pairOf (pairL p) = p := by
  obtain ⟨i, h, b⟩ := p
  have h1 : h.length = 32 := hp.1
  have h2 : b.length = 32 := hp.2
  have h3 : 1 ≤ i ∧ i ≤ 255 := isId_true.1 hi
  have h4 : nb (u8 i) = i := by rw [nb_u8 (by omega)]; omega
  simp only [pairOf, pairL, List.getD_cons_zero, segL, List.drop_succ_cons, List.drop_zero, h4]
  congr 1
  · rw [List.take_append_of_le_length (by omega), List.take_of_length_le (by omega)]
  · rw [List.drop_append, List.drop_of_length_le (by omega), h1]
    simp only [List.nil_append, Nat.sub_self, List.drop_zero]
    exact List.take_of_length_le (by omega)
theorem pairOf_id {l : List UInt8} (hl : 0 < l.length) (hz : l.getD 0 0 ≠ 0) : isId (pairOf l).id = true := by
  rw [isId_true]
  have h := nb_bd (l.getD 0 0)
  have : nb (l.getD 0 0) ≠ 0 := fun e => hz (nb_inj e)
  show 1 ≤ nb (l.getD 0 0) ∧ nb (l.getD 0 0) ≤ 255
  omega

theorem takeF_inv {F field : List UInt8} {fr a n : Nat} {k : List UInt8 → DR} {m : Msg} (h : takeF F field fr a n k = .ok m) : a + n ≤ F.length ∧ k (segL F a n) = .ok m := by
  unfold takeF at h
  split at h
  · cases h
  · exact ⟨by omega, h⟩
theorem pairF_inv {F field : List UInt8} {a : Nat} {k : Pair → DR} {m : Msg} (h : pairF F field a k = .ok m) : a + 65 ≤ F.length ∧ F.getD a 0 ≠ 0 ∧ k (pairOf (segL F a 65)) = .ok m := by
  unfold pairF at h
  split at h
  · cases h
  · split at h
    · cases h
    · exact ⟨by omega, by assumption, h⟩
theorem tailF_inv {F : List UInt8} {a : Nat} {m0 m : Msg} (h : tailF F a m0 = .ok m) : a = F.length ∧ m0 = m := by
  unfold tailF at h
  split at h
  · cases h; exact ⟨by assumption, rfl⟩
  · cases h
theorem seg_pair {F : List UInt8} {a : Nat} (h : a + 65 ≤ F.length) (hz : F.getD a 0 ≠ 0) : F.drop a = pairL (pairOf (segL F a 65)) ++ F.drop (a + 65) ∧ PairOk (pairOf (segL F a 65)) ∧ isId (pairOf (segL F a 65)).id = true := by
  have hl := segL_len h
  refine ⟨by rw [pairL_of hl]; exact drop_split F a 65, ⟨segL_len (by omega), segL_len (by omega)⟩, pairOf_id (by omega) ?_⟩
  unfold segL
  rw [getD_take _ (by decide), getD_drop]
  exact hz
theorem listF_inv {F : List UInt8} {m : Msg} : ∀ (n a : Nat) (ps : List Pair) (k : Nat → List Pair → DR), a ≤ F.length → listF F n a ps k = .ok m →
    ∃ qs, qs.length = n ∧ (∀ p ∈ qs, PairOk p ∧ isId p.id = true) ∧ F.drop a = pairsL qs ++ F.drop (a + 65 * n) ∧ a + 65 * n ≤ F.length ∧ k (a + 65 * n) (ps ++ qs) = .ok m := by
  intro n
  induction n with
  | zero => intro a ps k ha h; exact ⟨[], rfl, by simp, by simp [pairsL], by omega, by simpa [listF] using h⟩
  | succ n ih =>
    intro a ps k ha h
    unfold listF at h
    obtain ⟨h1, h2, h3⟩ := pairF_inv h
    obtain ⟨h4, h5, h6⟩ := seg_pair h1 h2
    obtain ⟨qs, g1, g2, g3, g4, g5⟩ := ih _ _ _ h1 h3
    refine ⟨pairOf (segL F a 65) :: qs, by simp [g1], fun p hp => ?_, ?_, by omega, ?_⟩
    · rcases List.mem_cons.1 hp with rfl | hp
      · exact ⟨h5, h6⟩
      · exact g2 p hp
    · rw [h4, g3, show a + 65 * (n + 1) = a + 65 + 65 * n from by omega]
      simp [pairsL]
    · rw [show a + 65 * (n + 1) = a + 65 + 65 * n from by omega]
      rw [List.append_assoc] at g5
      exact g5
theorem four_numL : ∀ {l : List UInt8}, l.length = 4 → four (numL l) = l
  | [a, b, c, d], _ => by
    have ha := a.toNat_lt
    have hb := b.toNat_lt
    have hc := c.toNat_lt
    have hd := d.toNat_lt
    have e : numL [a, b, c, d] = ((a.toNat * 256 + b.toNat) * 256 + c.toNat) * 256 + d.toNat := by simp [numL]
    unfold four
    rw [e]
    congr 1
    · apply UInt8.toNat_inj.1; rw [UInt8.toNat_ofNat']; omega
    congr 1
    · apply UInt8.toNat_inj.1; rw [UInt8.toNat_ofNat']; omega
    congr 1
    · apply UInt8.toNat_inj.1; rw [UInt8.toNat_ofNat']; omega
    congr 1
    · apply UInt8.toNat_inj.1; rw [UInt8.toNat_ofNat']; omega
theorem two_numL : ∀ {l : List UInt8}, l.length = 2 → two (numL l) = l
  | [a, b], _ => by
    have ha := a.toNat_lt
    have hb := b.toNat_lt
    have e : numL [a, b] = a.toNat * 256 + b.toNat := by simp [numL]
    unfold two
    rw [e]
    congr 1
    · apply UInt8.toNat_inj.1; rw [UInt8.toNat_ofNat']; omega
    congr 1
    · apply UInt8.toNat_inj.1; rw [UInt8.toNat_ofNat']; omega
theorem one_seg {l : List UInt8} (h : l.length = 1) : [l.getD 0 0] = l := by
  match l, h with
  | [x], _ => rfl
theorem listBad_alls : ∀ (ps : List Pair) (i : Nat), (∀ p ∈ ps, isId p.id = true) → listBad i ps = none
  | [], _, _ => rfl
  | p :: r, i, h => by
    unfold listBad
    rw [if_pos (h p (by simp))]
    exact listBad_alls r (i + 1) fun q hq => h q (by simp [hq])
theorem faultM_of {m : Msg} (h : MayBe m) : faultM m = none := by
  have k1 := h.k1
  have k6 := h.k6
  have f0 := h.f0
  have f1 := h.f1
  have t0 := h.t0
  have t1 := h.t1
  unfold faultM
  rw [if_neg (by omega), if_neg (by omega), if_neg (by omega)]
  by_cases c2 : m.kind = 2 ∨ m.kind = 4
  · rw [if_pos c2, if_pos (h.pid c2)]
  rw [if_neg c2]
  by_cases c3 : m.kind = 3
  · obtain ⟨a, b, c⟩ := h.lst c3
    rw [if_pos c3, if_neg (by omega), listBad_alls m.list 0 c]
    simp only
    rw [if_neg (by omega)]
  rw [if_neg c3]
  by_cases c5 : m.kind = 5
  · rw [if_pos c5, if_pos (h.cod c5)]
  rw [if_neg c5]

/-- What a body in a right frame is, if it is taken. -/
theorem bodyF_inv {kd : UInt8} {F : List UInt8} {n : Msg} (hk1 : 1 ≤ nb kd) (hk6 : nb kd ≤ 6) (h : bodyF kd F = .ok n) :
    n.kind = nb kd ∧ F.drop 10 = bodyM n ∧ MayBe n ∧ usedM n = n ∧ MsgOk n := by
  unfold bodyF at h
  obtain ⟨h1, h⟩ := takeF_inv h
  obtain ⟨h2, h⟩ := takeF_inv h
  obtain ⟨h3, h⟩ := takeF_inv h
  have ls := segL_len h1
  have lf := segL_len h2
  have lt := segL_len h3
  have e1 := drop_split F 10 32
  have e2 := drop_split F 42 1
  have e3 := drop_split F 43 1
  have f1 := one_seg lf
  have f2 := one_seg lt
  generalize segL F 10 32 = s at *
  generalize hx : (segL F 42 1).getD 0 0 = x at *
  generalize hy : (segL F 43 1).getD 0 0 = y at *
  rw [← f1] at e2
  rw [← f2] at e3
  have hx1 := nb_bd x
  have hy1 := nb_bd y
  have e0 : F.drop 10 = s ++ [x, y] ++ F.drop 44 := by rw [e1, e2, e3]; simp
  have z0 : PairOk Pair.zero := pair0_ok
  have zl : (zeros 32).length = 32 := by simp [zeros]
  have zl2 : (zeros 64).length = 64 := by simp [zeros]
  unfold restF at h
  by_cases c2 : nb kd = 2
  · rw [if_pos c2] at h
    obtain ⟨h4, h5, h⟩ := pairF_inv h
    obtain ⟨g1, g2, g3⟩ := seg_pair h4 h5
    generalize pairOf (segL F 44 65) = p at *
    obtain ⟨h6, rfl⟩ := tailF_inv h
    rw [show 44 + 65 = F.length from h6, List.drop_length, List.append_nil] at g1
    refine ⟨rfl, ?_, ⟨hk1, hk6, hx1.1, by show nb x ≤ 255; omega, hy1.1, by show nb y ≤ 255; omega, fun _ => g3, fun e => absurd e (by show ¬ nb kd = 3; omega), fun e => absurd e (by show ¬ nb kd = 5; omega)⟩, ?_, ⟨ls, g2, by simp [zM], zl, zl, zl2⟩⟩
    · rw [e0, g1]; simp [bodyM, restM, c2, u8_nb]
    · simp [usedM, baseM, zM, c2]
  rw [if_neg c2] at h
  by_cases c3 : nb kd = 3
  · rw [if_pos c3] at h
    obtain ⟨h4, h⟩ := takeF_inv h
    have lk := segL_len h4
    have e4 := drop_split F 44 1
    have f3 := one_seg lk
    generalize hz : (segL F 44 1).getD 0 0 = z at *
    rw [← f3] at e4
    obtain ⟨qs, g1, g2, g3, g4, h⟩ := listF_inv _ _ _ _ (by omega) h
    unfold textF at h
    obtain ⟨h5, h⟩ := takeF_inv h
    have l4 := segL_len h5
    have e5 := drop_split F (45 + 65 * z.toNat) 4
    have f4 := four_numL l4
    generalize segL F (45 + 65 * z.toNat) 4 = t4 at *
    split at h
    · cases h
    rename_i hnt
    obtain ⟨h6, h⟩ := takeF_inv h
    have e6 := drop_split F (45 + 65 * z.toNat + 4) (numL t4)
    have l6 := segL_len h6
    generalize segL F (45 + 65 * z.toNat + 4) (numL t4) = tx at *
    obtain ⟨h7, rfl⟩ := tailF_inv h
    rw [h7, List.drop_length, List.append_nil] at e6
    have hzl := z.toNat_lt
    have hcz : UInt8.ofNat qs.length = z := by rw [g1]; simp
    refine ⟨rfl, ?_, ⟨hk1, hk6, hx1.1, by show nb x ≤ 255; omega, hy1.1, by show nb y ≤ 255; omega, fun e => absurd e (by show ¬ (nb kd = 2 ∨ nb kd = 4); omega), fun _ => ⟨by show ([] ++ qs).length ≤ 255; simp [g1]; omega, by show tx.length ≤ 1048575; omega, fun p hp => (g2 p (by simpa using hp)).2⟩, fun e => absurd e (by show ¬ nb kd = 5; omega)⟩, ?_, ⟨ls, z0, fun p hp => (g2 p (by simpa using hp)).1, zl, zl, zl2⟩⟩
    · rw [e0, e4, g3, e5, e6]
      have hb3 : ¬ nb kd = 2 := by omega
      simp only [bodyM, restM, u8_nb, if_neg hb3, if_pos c3, List.nil_append, hcz, l6, f4]
      simp
    · simp [usedM, baseM, zM, c3]
  rw [if_neg c3] at h
  by_cases c4 : nb kd = 4
  · rw [if_pos c4] at h
    obtain ⟨h4, h5, h⟩ := pairF_inv h
    obtain ⟨g1, g2, g3⟩ := seg_pair h4 h5
    generalize pairOf (segL F 44 65) = p at *
    obtain ⟨h6, h⟩ := takeF_inv h
    have e4 := drop_split F 109 32
    have l4 := segL_len h6
    generalize segL F 109 32 = bi at *
    obtain ⟨h7, h⟩ := takeF_inv h
    have e5 := drop_split F 141 32
    have l5 := segL_len h7
    generalize segL F 141 32 = sh at *
    obtain ⟨h8, rfl⟩ := tailF_inv h
    rw [show 141 + 32 = F.length from h8, List.drop_length, List.append_nil] at e5
    refine ⟨rfl, ?_, ⟨hk1, hk6, hx1.1, by show nb x ≤ 255; omega, hy1.1, by show nb y ≤ 255; omega, fun _ => g3, fun e => absurd e (by show ¬ nb kd = 3; omega), fun e => absurd e (by show ¬ nb kd = 5; omega)⟩, ?_, ⟨ls, g2, by simp [zM], l4, l5, zl2⟩⟩
    · rw [e0, g1, show 44 + 65 = 109 from rfl, e4, show 109 + 32 = 141 from rfl, e5]; simp [bodyM, restM, c4, u8_nb]
    · simp [usedM, baseM, zM, c4]
  rw [if_neg c4] at h
  by_cases c5 : nb kd = 5
  · rw [if_pos c5] at h
    obtain ⟨h4, h⟩ := takeF_inv h
    have e4 := drop_split F 44 2
    have l4 := segL_len h4
    have f4 := two_numL l4
    have n4 := numL_lt (segL F 44 2)
    rw [l4] at n4
    generalize segL F 44 2 = cd at *
    split at h
    · cases h
    rename_i hne
    obtain ⟨h8, rfl⟩ := tailF_inv h
    rw [show 44 + 2 = F.length from h8, List.drop_length, List.append_nil] at e4
    refine ⟨rfl, ?_, ⟨hk1, hk6, hx1.1, by show nb x ≤ 255; omega, hy1.1, by show nb y ≤ 255; omega, fun e => absurd e (by show ¬ (nb kd = 2 ∨ nb kd = 4); omega), fun e => absurd e (by show ¬ nb kd = 3; omega), fun _ => ⟨by show (1 : Int) ≤ (numL cd : Nat); omega, by show ((numL cd : Nat) : Int) ≤ 65535; omega⟩⟩, ?_, ⟨ls, z0, by simp [zM], zl, zl, zl2⟩⟩
    · rw [e0, e4]; simp [bodyM, restM, c5, u8_nb, f4]
    · simp [usedM, baseM, zM, c5]
  rw [if_neg c5] at h
  by_cases c6 : nb kd = 6
  · rw [if_pos c6] at h
    obtain ⟨h4, h⟩ := takeF_inv h
    have e4 := drop_split F 44 64
    have l4 := segL_len h4
    generalize segL F 44 64 = sg at *
    obtain ⟨h8, rfl⟩ := tailF_inv h
    rw [show 44 + 64 = F.length from h8, List.drop_length, List.append_nil] at e4
    refine ⟨rfl, ?_, ⟨hk1, hk6, hx1.1, by show nb x ≤ 255; omega, hy1.1, by show nb y ≤ 255; omega, fun e => absurd e (by show ¬ (nb kd = 2 ∨ nb kd = 4); omega), fun e => absurd e (by show ¬ nb kd = 3; omega), fun e => absurd e (by show ¬ nb kd = 5; omega)⟩, ?_, ⟨ls, z0, by simp [zM], zl, zl, l4⟩⟩
    · rw [e0, e4]; simp [bodyM, restM, c6, u8_nb]
    · simp [usedM, baseM, zM, c6]
  rw [if_neg c6] at h
  obtain ⟨h8, rfl⟩ := tailF_inv h
  have e4 : F.drop 44 = [] := by rw [h8, List.drop_length]
  refine ⟨rfl, ?_, ⟨hk1, hk6, hx1.1, by show nb x ≤ 255; omega, hy1.1, by show nb y ≤ 255; omega, fun e => absurd e (by show ¬ (nb kd = 2 ∨ nb kd = 4); omega), fun e => absurd e (by show ¬ nb kd = 3; omega), fun e => absurd e (by show ¬ nb kd = 5; omega)⟩, ?_, ⟨ls, z0, by simp [zM], zl, zl, zl2⟩⟩
  · rw [e0, e4]; simp [bodyM, restM, c2, c3, c4, c5, c6, u8_nb]
  · simp [usedM, baseM, zM, c2, c3, c4, c5, c6]

/-- What is decoded is encoded to the same bytes. -/
theorem dec_enc {l : List UInt8} {n : Msg} (h : decF l = .ok n) : faultM n = none ∧ frameL (u8 n.kind) (bodyM n) = l ∧ usedM n = n ∧ MsgOk n := by
  unfold decF at h
  split at h
  · cases h
  rename_i hp
  obtain ⟨h1, h2, h3, h4, h5⟩ := headL_of hp
  split at h
  · cases h
  split at h
  · cases h
  split at h
  · cases h
  rename_i g1 g2 g3
  have hlen : l.length = 14 + numL (segL l 6 4) := by unfold peekLen at g1 g2; omega
  obtain ⟨i1, i2, i3, i4, i5⟩ := bodyF_inv h3 h4 h
  refine ⟨faultM_of i3, ?_, i4, i5⟩
  have l6 : (segL l 6 4).length = 4 := segL_len (by omega)
  have hb : (l.take (l.length - 4)).drop 10 = bodyM n := i2
  have hbl : (bodyM n).length = numL (segL l 6 4) := by rw [← hb]; simp; omega
  have hpre : preL (l.getD 5 0) (bodyM n) = l.take (l.length - 4) := by
    unfold preL
    rw [hbl, four_numL l6, ← hb]
    have e := List.take_append_drop 10 (l.take (l.length - 4))
    rw [List.take_take, Nat.min_eq_left (by omega)] at e
    have e2 : l.take 10 = [82, 73, 77, 69, 1, l.getD 5 0] ++ segL l 6 4 := by
      conv => lhs; rw [h1]
      simp [headL, l6]
    rw [e2] at e
    exact e
  rw [i1, u8_nb]
  unfold frameL
  rw [hpre]
  simp only [Classical.not_not] at g3
  rw [g3, List.take_append_drop]

/-! ### the way there -/
theorem takeF_eval {F field x r : List UInt8} {fr a n : Nat} {k : List UInt8 → DR} (hd : F.drop a = x ++ r) (hx : x.length = n) (ha : a ≤ F.length) : takeF F field fr a n k = k x ∧ F.drop (a + n) = r ∧ a + n ≤ F.length := by
  have hl : F.length - a = x.length + r.length := by rw [← List.length_drop, hd, List.length_append]
  have hs : segL F a n = x := by unfold segL; rw [hd, List.take_append_of_le_length (by omega), List.take_of_length_le (by omega)]
  refine ⟨?_, ?_, by omega⟩
  · unfold takeF
    rw [if_neg (by omega), hs]
  · rw [← List.drop_drop, hd, List.drop_append, List.drop_of_length_le (by omega)]
    simp [← hx]
theorem pairF_eval {F field r : List UInt8} {p : Pair} {a : Nat} {k : Pair → DR} (hd : F.drop a = pairL p ++ r) (hp : PairOk p) (hi : isId p.id = true) (ha : a ≤ F.length) : pairF F field a k = k p ∧ F.drop (a + 65) = r ∧ a + 65 ≤ F.length := by
  have h65 := pairL_len hp
  have hl : F.length - a = (pairL p).length + r.length := by rw [← List.length_drop, hd, List.length_append]
  have hs : segL F a 65 = pairL p := by unfold segL; rw [hd, List.take_append_of_le_length (by omega), List.take_of_length_le (by omega)]
  have hg : F.getD a 0 = u8 p.id := by
    have e := getD_drop F a 0
    rw [hd] at e
    rw [Nat.add_zero] at e
    rw [← e]
    rfl
  have h3 := isId_true.1 hi
  have hne : ¬ u8 p.id = 0 := fun e => by
    have h4 := nb_u8 (n := p.id) (by omega)
    rw [e] at h4
    have : nb 0 = 0 := rfl
    omega
  refine ⟨?_, ?_, by omega⟩
  · unfold pairF
    rw [if_neg (by omega), hg, if_neg hne, hs, pairOf_L hp hi]
  · rw [← List.drop_drop, hd, List.drop_append, List.drop_of_length_le (by omega)]
    simp [h65]
theorem listF_eval {F : List UInt8} : ∀ (qs : List Pair) (a : Nat) (ps : List Pair) (r : List UInt8) (k : Nat → List Pair → DR), (∀ p ∈ qs, PairOk p ∧ isId p.id = true) → F.drop a = pairsL qs ++ r → a ≤ F.length →
    listF F qs.length a ps k = k (a + 65 * qs.length) (ps ++ qs) ∧ F.drop (a + 65 * qs.length) = r ∧ a + 65 * qs.length ≤ F.length
  | [], a, ps, r, k, _, hd, ha => ⟨by simp [listF], by simpa [pairsL] using hd, by simpa using ha⟩
  | p :: qs, a, ps, r, k, hp, hd, ha => by
    have hd' : F.drop a = pairL p ++ (pairsL qs ++ r) := by rw [hd]; simp [pairsL]
    obtain ⟨h1, h2, h3⟩ := pairF_eval (field := kList) (k := fun p => listF F qs.length (a + 65) (ps ++ [p]) k) hd' (hp p (by simp)).1 (hp p (by simp)).2 ha
    obtain ⟨h4, h5, h6⟩ := listF_eval qs (a + 65) (ps ++ [p]) r k (fun q hq => hp q (by simp [hq])) h2 h3
    rw [show a + 65 * (p :: qs).length = a + 65 + 65 * qs.length from by simp; omega]
    refine ⟨?_, h5, h6⟩
    show listF F (qs.length + 1) a ps k = _
    unfold listF
    rw [h1, h4]
    simp
theorem peekBad_head (kd : UInt8) (ns rest : List UInt8) (h1 : 1 ≤ nb kd) (h6 : nb kd ≤ 6) (hn : ns.length = 4) (hN : numL ns ≤ 1065189) : peekBad (headL kd ns rest) = none ∧ segL (headL kd ns rest) 6 4 = ns := by
  have hs : segL (headL kd ns rest) 6 4 = ns := by
    show List.take 4 (ns ++ rest) = ns
    rw [List.take_append_of_le_length (by omega), List.take_of_length_le (by omega)]
  have hl : (headL kd ns rest).length = 10 + rest.length := by simp [headL, hn]; omega
  refine ⟨?_, hs⟩
  unfold peekBad
  rw [hs, hl]
  have e0 : (headL kd ns rest).getD 0 0 = 82 := rfl
  have e1 : (headL kd ns rest).getD 1 0 = 73 := rfl
  have e2 : (headL kd ns rest).getD 2 0 = 77 := rfl
  have e3 : (headL kd ns rest).getD 3 0 = 69 := rfl
  have e4 : (headL kd ns rest).getD 4 0 = 1 := rfl
  have e5 : (headL kd ns rest).getD 5 0 = kd := rfl
  rw [e0, e1, e2, e3, e4, e5]
  rw [if_neg (by omega), if_neg (by simp), if_neg (by omega), if_neg (by simp), if_neg (by omega), if_neg (by simp), if_neg (by omega), if_neg (by simp), if_neg (by omega), if_neg (by simp), if_neg (by omega), if_neg (by omega), if_neg (by omega), if_neg (by omega)]
/-- A body of a message that may be, read. -/
theorem bodyF_eval {m : Msg} {F : List UInt8} (om : MsgOk m) (am : MayBe m) (hF : F.drop 10 = bodyM m) (ha : 10 ≤ F.length) : bodyF (u8 m.kind) F = .ok (usedM m) := by
  have hk : nb (u8 m.kind) = m.kind := by have := am.k1; have := am.k6; rw [nb_u8 (by omega)]; omega
  have hf : nb (u8 m.from_) = m.from_ := by have := am.f0; have := am.f1; rw [nb_u8 (by omega)]; omega
  have ht : nb (u8 m.to_) = m.to_ := by have := am.t0; have := am.t1; rw [nb_u8 (by omega)]; omega
  unfold bodyM at hF
  rw [List.append_assoc] at hF
  unfold bodyF
  obtain ⟨h1, h2, h3⟩ := takeF_eval (field := kSession) (fr := 10) hF om.session ha (k := fun s => takeF F kFrom 42 42 1 fun f => takeF F kTo 43 43 1 fun t => restF F (nb (u8 m.kind)) { zM with kind := nb (u8 m.kind), session := s, from_ := nb (f.getD 0 0), to_ := nb (t.getD 0 0) })
  rw [h1]
  obtain ⟨h4, h5, h6⟩ := takeF_eval (x := [u8 m.from_]) (field := kFrom) (fr := 42) (a := 42) (n := 1) h2 rfl h3 (k := fun f => takeF F kTo 43 43 1 fun t => restF F (nb (u8 m.kind)) { zM with kind := nb (u8 m.kind), session := m.session, from_ := nb (f.getD 0 0), to_ := nb (t.getD 0 0) })
  rw [h4]
  obtain ⟨h7, h8, h9⟩ := takeF_eval (x := [u8 m.to_]) (field := kTo) (fr := 43) (a := 43) (n := 1) h5 rfl h6 (k := fun t => restF F (nb (u8 m.kind)) { zM with kind := nb (u8 m.kind), session := m.session, from_ := nb ([u8 m.from_].getD 0 0), to_ := nb (t.getD 0 0) })
  rw [h7]
  simp only [List.getD_cons_zero, hk, hf, ht]
  have h8' : F.drop 44 = restM m := h8
  have h9' : 44 ≤ F.length := h9
  have fin : ∀ {a : Nat} {x : Msg}, a ≤ F.length → F.drop a = [] → tailF F a x = .ok x := fun h1 h2 => by
    unfold tailF
    rw [if_pos]
    have := congrArg List.length h2
    simp at this
    omega
  clear h1 h2 h3 h4 h5 h6 h7 h8 h9
  unfold restF usedM
  unfold restM at h8'
  by_cases c2 : m.kind = 2
  · rw [if_pos c2] at h8'
    rw [if_pos c2, if_pos c2]
    obtain ⟨g1, g2, g3⟩ := pairF_eval (field := kPair) (r := []) (a := 44) (by simpa using h8') om.pair (am.pid (.inl c2)) h9' (k := fun p => tailF F 109 { zM with kind := m.kind, session := m.session, from_ := m.from_, to_ := m.to_, pair := p })
    rw [g1, fin g3 g2]
    rfl
  rw [if_neg c2] at h8'
  rw [if_neg c2, if_neg c2]
  by_cases c3 : m.kind = 3
  · rw [if_pos c3] at h8'
    rw [if_pos c3, if_pos c3]
    obtain ⟨a1, a2, a3⟩ := am.lst c3
    have hkn : (UInt8.ofNat m.list.length).toNat = m.list.length := by rw [UInt8.toNat_ofNat']; omega
    obtain ⟨g1, g2, g3⟩ := takeF_eval (x := [UInt8.ofNat m.list.length]) (field := kList) (fr := 44) (a := 44) (n := 1) (r := pairsL m.list ++ four m.text.length ++ m.text) (by rw [h8']; simp) rfl h9' (k := fun k => listF F (k.getD 0 0).toNat 45 [] fun at_ ps => textF F at_ fun e2 x => tailF F e2 { zM with kind := m.kind, session := m.session, from_ := m.from_, to_ := m.to_, list := ps, text := x })
    rw [g1]
    simp only [List.getD_cons_zero, hkn]
    obtain ⟨i1, i2, i3⟩ := listF_eval m.list 45 [] (four m.text.length ++ m.text) (fun at_ ps => textF F at_ fun e2 x => tailF F e2 { zM with kind := m.kind, session := m.session, from_ := m.from_, to_ := m.to_, list := ps, text := x }) (fun p hp => ⟨om.list p hp, a3 p hp⟩) (by rw [show (45 : Nat) = 44 + 1 from rfl, g2, List.append_assoc]) (by omega)
    rw [i1]
    simp only [List.nil_append]
    unfold textF
    obtain ⟨j1, j2, j3⟩ := takeF_eval (field := kText) (fr := 45 + 65 * m.list.length) (n := 4) i2 rfl i3 (k := fun s => if 1048575 < numL s then .bad ⟨kText, (45 + 65 * m.list.length : Nat), 10⟩ else takeF F kText (45 + 65 * m.list.length) (45 + 65 * m.list.length + 4) (numL s) fun x => tailF F (45 + 65 * m.list.length + 4 + numL s) { zM with kind := m.kind, session := m.session, from_ := m.from_, to_ := m.to_, list := m.list, text := x })
    rw [j1]
    rw [numL_four _ (by omega), if_neg (by omega)]
    obtain ⟨q1, q2, q3⟩ := takeF_eval (field := kText) (fr := 45 + 65 * m.list.length) (n := m.text.length) (r := []) (by simpa using j2) rfl j3 (k := fun x => tailF F (45 + 65 * m.list.length + 4 + m.text.length) { zM with kind := m.kind, session := m.session, from_ := m.from_, to_ := m.to_, list := m.list, text := x })
    rw [q1, fin q3 q2]
    rfl
  rw [if_neg c3] at h8'
  rw [if_neg c3, if_neg c3]
  by_cases c4 : m.kind = 4
  · rw [if_pos c4] at h8'
    rw [if_pos c4, if_pos c4]
    rw [List.append_assoc] at h8'
    obtain ⟨g1, g2, g3⟩ := pairF_eval (field := kPair) (a := 44) h8' om.pair (am.pid (.inr c4)) h9' (k := fun p => takeF F kBind 109 109 32 fun x => takeF F kShare 141 141 32 fun y => tailF F 173 { zM with kind := m.kind, session := m.session, from_ := m.from_, to_ := m.to_, pair := p, bind_ := x, share := y })
    rw [g1]
    obtain ⟨i1, i2, i3⟩ := takeF_eval (field := kBind) (fr := 109) (a := 109) g2 om.bind_ g3 (k := fun x => takeF F kShare 141 141 32 fun y => tailF F 173 { zM with kind := m.kind, session := m.session, from_ := m.from_, to_ := m.to_, pair := m.pair, bind_ := x, share := y })
    rw [i1]
    obtain ⟨j1, j2, j3⟩ := takeF_eval (field := kShare) (fr := 141) (a := 141) (r := []) (by simpa using i2) om.share i3 (k := fun y => tailF F 173 { zM with kind := m.kind, session := m.session, from_ := m.from_, to_ := m.to_, pair := m.pair, bind_ := m.bind_, share := y })
    rw [j1, fin j3 j2]
    rfl
  rw [if_neg c4] at h8'
  rw [if_neg c4, if_neg c4]
  by_cases c5 : m.kind = 5
  · rw [if_pos c5] at h8'
    rw [if_pos c5, if_pos c5]
    have hc := am.cod c5
    obtain ⟨g1, g2, g3⟩ := takeF_eval (field := kCode) (fr := 44) (a := 44) (n := 2) (r := []) (x := two m.code.toNat) (by simpa using h8') rfl h9' (k := fun x => if numL x = 0 then .bad ⟨kCode, 44, 1⟩ else tailF F 46 { zM with kind := m.kind, session := m.session, from_ := m.from_, to_ := m.to_, code := numL x })
    rw [g1, numL_two _ (by omega), if_neg (by omega), fin g3 g2]
    have : ((m.code.toNat : Nat) : Int) = m.code := by omega
    rw [this]
    rfl
  rw [if_neg c5] at h8'
  rw [if_neg c5, if_neg c5]
  by_cases c6 : m.kind = 6
  · rw [if_pos c6] at h8'
    rw [if_pos c6, if_pos c6]
    obtain ⟨g1, g2, g3⟩ := takeF_eval (field := kSig) (fr := 44) (a := 44) (n := 64) (r := []) (x := m.sig) (by simpa using h8') om.sig h9' (k := fun x => tailF F 108 { zM with kind := m.kind, session := m.session, from_ := m.from_, to_ := m.to_, sig := x })
    rw [g1, fin g3 g2]
    rfl
  rw [if_neg c6] at h8'
  rw [if_neg c6, if_neg c6]
  rw [fin h9' h8']
  rfl
/-- What is encoded is decoded as the same. -/
theorem enc_dec {m : Msg} (om : MsgOk m) (hf : faultM m = none) (hl : (bodyM m).length ≤ 1065189) : peekBad (frameL (u8 m.kind) (bodyM m)) = none ∧ peekLen (frameL (u8 m.kind) (bodyM m)) = 14 + (bodyM m).length ∧ decF (frameL (u8 m.kind) (bodyM m)) = .ok (usedM m) := by
  have am := mayBe hf
  have hk : nb (u8 m.kind) = m.kind := by have := am.k1; have := am.k6; rw [nb_u8 (by omega)]; omega
  have hh := frame_head (u8 m.kind) (bodyM m)
  have h4 := sha4 (preL (u8 m.kind) (bodyM m))
  obtain ⟨p1, p2⟩ := peekBad_head (u8 m.kind) (four (bodyM m).length) (bodyM m ++ (sha (preL (u8 m.kind) (bodyM m))).take 4) (by rw [hk]; exact am.k1) (by rw [hk]; exact am.k6) rfl (by rw [numL_four _ (by omega)]; exact hl)
  rw [← hh] at p1 p2
  have hlen : (frameL (u8 m.kind) (bodyM m)).length = 14 + (bodyM m).length := by simp only [frameL, List.length_append, h4, preL_len]; omega
  have hpl : peekLen (frameL (u8 m.kind) (bodyM m)) = 14 + (bodyM m).length := by unfold peekLen; rw [p2, numL_four _ (by omega)]
  refine ⟨p1, hpl, ?_⟩
  have ht : (frameL (u8 m.kind) (bodyM m)).take ((frameL (u8 m.kind) (bodyM m)).length - 4) = preL (u8 m.kind) (bodyM m) := by
    rw [hlen]
    unfold frameL
    rw [List.take_append_of_le_length (by rw [preL_len]; omega), List.take_of_length_le (by rw [preL_len]; omega)]
  have hd : (frameL (u8 m.kind) (bodyM m)).drop ((frameL (u8 m.kind) (bodyM m)).length - 4) = (sha (preL (u8 m.kind) (bodyM m))).take 4 := by
    rw [hlen]
    unfold frameL
    rw [List.drop_append, List.drop_of_length_le (by rw [preL_len]; omega), preL_len]
    simp only [List.nil_append]
    rw [show 14 + (bodyM m).length - 4 - (10 + (bodyM m).length) = 0 from by omega, List.drop_zero]
  unfold decF
  rw [p1]
  simp only
  rw [if_neg (by omega), if_neg (by omega), ht, hd, if_neg (by simp)]
  have h5 : (frameL (u8 m.kind) (bodyM m)).getD 5 0 = u8 m.kind := by rw [hh]; rfl
  rw [h5]
  refine bodyF_eval om am ?_ (by rw [preL_len]; omega)
  simp [preL, four]
end Go.Proofs.YtmnmmabhmedioaaDoor
/- Wire: Decode of any bytes. (Printed by gen_dec3.py.) -/
namespace Go.Proofs.YtmnmmabhmedioaaDoor
open Go.RowKit
set_option linter.unusedVariables false
set_option linter.unusedSimpArgs false
set_option maxRecDepth 100000

set_option maxHeartbeats 8000000 in
theorem decode_lshort (A : Option Addr) (n c L : Nat) (kd : UInt8) (w : World) (hp : ∀ w1 : World, Below w.heap.size w w1 → Calls Tryd.prog 37 #[.slice A n c] w1 fun e w' => e = .returned (.tuple #[.int .i64 (nb kd), .int .i64 (L : Int)]) ∧ ∃ m, w' = w1.drewN m) (hlen : n < L) (hn : n ≤ 140737488355328) (hL : L ≤ 1099511627776) :
    Calls Tryd.prog 11 #[.slice A n c] w (DecBad w ⟨kFrame, (n : Int), 3⟩) := by
  replace hp := Lib.hid hp
  go_enter_defers Tryd.func11, Tryd.ntmps11
  go_upto_region 2 with fail
  have hZ : ((w.alloc (.cells Tryd.zeroCells36 36)).alloc (.cells #[.nilIface] 38)).heap[w.heap.size]? = some (.cells Tryd.zeroCells36 36 (0, 0)) := by
    rw [heap_alloc?, if_neg (by simp)]; exact heap_alloc_new w _
  have hE : ((w.alloc (.cells Tryd.zeroCells36 36)).alloc (.cells #[.nilIface] 38)).heap[w.heap.size + 1]? = some (.cells #[.nilIface] 38 (0, 0)) := by
    rw [heap_alloc?, if_pos (by simp)]
  have hB : Below w.heap.size w ((w.alloc (.cells Tryd.zeroCells36 36)).alloc (.cells #[.nilIface] 38)) := later (boxed _ _) (boxed _ _)
  have hsz : ((w.alloc (.cells Tryd.zeroCells36 36)).alloc (.cells #[.nilIface] 38)).heap.size = w.heap.size + 2 := by simp
  generalize ((w.alloc (.cells Tryd.zeroCells36 36)).alloc (.cells #[.nilIface] 38)) = w1 at hZ hE hB hsz ⊢
  replace hZ := Lib.hid hZ
  replace hE := Lib.hid hE
  go_wp2_with fail
  refine (hp.out w1 hB).mono ?_
  rintro e w2 ⟨rfl, md, hw2⟩
  have hB2 : Below w.heap.size w w2 := by rw [hw2]; exact below_drewN hB md
  have hs2 : w2.heap.size = w.heap.size + 2 := by rw [hw2]; exact hsz
  have hZ2 : w2.heap[w.heap.size]? = some (.cells Tryd.zeroCells36 36 (0, 0)) := by rw [hw2]; exact hZ.out
  have hE2 : w2.heap[w.heap.size + 1]? = some (.cells #[.nilIface] 38 (0, 0)) := by rw [hw2]; exact hE.out
  clear hw2 hZ hE hB hsz hp
  replace hZ2 := Lib.hid hZ2
  replace hE2 := Lib.hid hE2
  replace hB2 := Lib.hid hB2
  go_wp2_with fail
  refine (need_no kFrame (n : Int) 3 _ _ (decide_eq_false (by omega))).mono ?_
  rintro e w3 ⟨q, rfl, hq, hF, hBn⟩
  have hE3 := heap_on hBn hE2.out
  have hZ3 := heap_on hBn hZ2.out
  have hB33 := later' hB2.out hBn
  have ce : w3.cell? ⟨w.heap.size + 1, 0, none⟩ = some .nilIface := cell_of hE3 rfl
  have cf : w3.frozen? ⟨w.heap.size + 1, 0, none⟩ = false := free_of hE3
  have hq2 : w.heap.size + 2 ≤ q := by omega
  clear hZ2 hE2 hB2 hBn hq
  replace hE3 := Lib.hid hE3
  replace hZ3 := Lib.hid hZ3
  replace hF := Lib.hid hF
  replace hB33 := Lib.hid hB33
  go_wp2_with fail
  have hEf := cell_of (heap_set (o := 0) hE3.out (errOf q)) (off := 0) rfl
  have hKf : Keep (fun k => k = w.heap.size + 1) w3 (w3.setCell ⟨w.heap.size + 1, 0, none⟩ (errOf q)) := Keep.set (fun k => k = w.heap.size + 1) _ _ _ rfl
  have hZf := hKf.heap (show ¬ w.heap.size = w.heap.size + 1 by omega) hZ3.out
  have hFf : FaultAt (w3.setCell ⟨w.heap.size + 1, 0, none⟩ (errOf q)) q ⟨kFrame, (n : Int), 3⟩ := hKf.heap (show ¬ q = w.heap.size + 1 by omega) hF.out
  have hBf := below_keep hB33.out hKf (fun i e => by omega) hB33.out.size
  have hif : (Tryd.prog.info? 36).map (·.size) = some Tryd.zeroCells36.size := by kernel_rfl
  have hL := run_loadVar_row (P := Tryd.prog) _ w.heap.size 36 36 _ (0, 0) _ hZf Tryd.underlying36 rfl hif
  have hL2 : (loadVar 38 ⟨w.heap.size + 1, 0, none⟩).run Tryd.prog (w3.setCell ⟨w.heap.size + 1, 0, none⟩ (errOf q)) = .ok (errOf q) (w3.setCell ⟨w.heap.size + 1, 0, none⟩ (errOf q)) := by simp [go_sem, hEf]
  refine leaves_cons (f := 36) (args := #[.pointer (some ⟨w.heap.size + 1, 0, none⟩)]) (by simp) (by simp [go_sem]) ?_
  refine (caught_panicking ⟨w.heap.size + 1, 0, none⟩ q .nilIface [] _ ce cf).mono ?_
  rintro e u' w'' ⟨rfl, rfl, rfl⟩
  exact ⟨_, results_cell2 rfl _ _ ⟨w.heap.size, 0, none⟩ ⟨w.heap.size + 1, 0, none⟩ (.agg Tryd.zeroCells36) (errOf q) rfl rfl hL hL2, q, rfl, hFf, hBf⟩

set_option maxHeartbeats 8000000 in
theorem decode_ltail (A : Option Addr) (n c L : Nat) (kd : UInt8) (w : World) (hp : ∀ w1 : World, Below w.heap.size w w1 → Calls Tryd.prog 37 #[.slice A n c] w1 fun e w' => e = .returned (.tuple #[.int .i64 (nb kd), .int .i64 (L : Int)]) ∧ ∃ m, w' = w1.drewN m) (hlen : L < n) (hn : n ≤ 140737488355328) (hL : L ≤ 1099511627776) :
    Calls Tryd.prog 11 #[.slice A n c] w (DecBad w ⟨kTail, (L : Int), 104⟩) := by
  replace hp := Lib.hid hp
  go_enter_defers Tryd.func11, Tryd.ntmps11
  go_upto_region 2 with fail
  have hZ : ((w.alloc (.cells Tryd.zeroCells36 36)).alloc (.cells #[.nilIface] 38)).heap[w.heap.size]? = some (.cells Tryd.zeroCells36 36 (0, 0)) := by
    rw [heap_alloc?, if_neg (by simp)]; exact heap_alloc_new w _
  have hE : ((w.alloc (.cells Tryd.zeroCells36 36)).alloc (.cells #[.nilIface] 38)).heap[w.heap.size + 1]? = some (.cells #[.nilIface] 38 (0, 0)) := by
    rw [heap_alloc?, if_pos (by simp)]
  have hB : Below w.heap.size w ((w.alloc (.cells Tryd.zeroCells36 36)).alloc (.cells #[.nilIface] 38)) := later (boxed _ _) (boxed _ _)
  have hsz : ((w.alloc (.cells Tryd.zeroCells36 36)).alloc (.cells #[.nilIface] 38)).heap.size = w.heap.size + 2 := by simp
  generalize ((w.alloc (.cells Tryd.zeroCells36 36)).alloc (.cells #[.nilIface] 38)) = w1 at hZ hE hB hsz ⊢
  replace hZ := Lib.hid hZ
  replace hE := Lib.hid hE
  go_wp2_with fail
  refine (hp.out w1 hB).mono ?_
  rintro e w2 ⟨rfl, md, hw2⟩
  have hB2 : Below w.heap.size w w2 := by rw [hw2]; exact below_drewN hB md
  have hs2 : w2.heap.size = w.heap.size + 2 := by rw [hw2]; exact hsz
  have hZ2 : w2.heap[w.heap.size]? = some (.cells Tryd.zeroCells36 36 (0, 0)) := by rw [hw2]; exact hZ.out
  have hE2 : w2.heap[w.heap.size + 1]? = some (.cells #[.nilIface] 38 (0, 0)) := by rw [hw2]; exact hE.out
  clear hw2 hZ hE hB hsz hp
  replace hZ2 := Lib.hid hZ2
  replace hE2 := Lib.hid hE2
  replace hB2 := Lib.hid hB2
  go_wp2_with fail
  refine (need_dec (by omega) _ _ _ _).mono ?_
  rintro e w' ⟨rfl, rfl⟩
  go_wp2_with fail
  refine (need_no kTail (L : Int) 104 _ _ (by first | exact decide_eq_false (by omega) | (simp; omega))).mono ?_
  rintro e w3 ⟨q, rfl, hq, hF, hBn⟩
  have hE3 := heap_on hBn hE2.out
  have hZ3 := heap_on hBn hZ2.out
  have hB33 := later' hB2.out hBn
  have ce : w3.cell? ⟨w.heap.size + 1, 0, none⟩ = some .nilIface := cell_of hE3 rfl
  have cf : w3.frozen? ⟨w.heap.size + 1, 0, none⟩ = false := free_of hE3
  have hq2 : w.heap.size + 2 ≤ q := by omega
  clear hZ2 hE2 hB2 hBn hq
  replace hE3 := Lib.hid hE3
  replace hZ3 := Lib.hid hZ3
  replace hF := Lib.hid hF
  replace hB33 := Lib.hid hB33
  go_wp2_with fail
  have hEf := cell_of (heap_set (o := 0) hE3.out (errOf q)) (off := 0) rfl
  have hKf : Keep (fun k => k = w.heap.size + 1) w3 (w3.setCell ⟨w.heap.size + 1, 0, none⟩ (errOf q)) := Keep.set (fun k => k = w.heap.size + 1) _ _ _ rfl
  have hZf := hKf.heap (show ¬ w.heap.size = w.heap.size + 1 by omega) hZ3.out
  have hFf : FaultAt (w3.setCell ⟨w.heap.size + 1, 0, none⟩ (errOf q)) q ⟨kTail, (L : Int), 104⟩ := hKf.heap (show ¬ q = w.heap.size + 1 by omega) hF.out
  have hBf := below_keep hB33.out hKf (fun i e => by omega) hB33.out.size
  have hif : (Tryd.prog.info? 36).map (·.size) = some Tryd.zeroCells36.size := by kernel_rfl
  have hL := run_loadVar_row (P := Tryd.prog) _ w.heap.size 36 36 _ (0, 0) _ hZf Tryd.underlying36 rfl hif
  have hL2 : (loadVar 38 ⟨w.heap.size + 1, 0, none⟩).run Tryd.prog (w3.setCell ⟨w.heap.size + 1, 0, none⟩ (errOf q)) = .ok (errOf q) (w3.setCell ⟨w.heap.size + 1, 0, none⟩ (errOf q)) := by simp [go_sem, hEf]
  refine leaves_cons (f := 36) (args := #[.pointer (some ⟨w.heap.size + 1, 0, none⟩)]) (by simp) (by simp [go_sem]) ?_
  refine (caught_panicking ⟨w.heap.size + 1, 0, none⟩ q .nilIface [] _ ce cf).mono ?_
  rintro e u' w'' ⟨rfl, rfl, rfl⟩
  exact ⟨_, results_cell2 rfl _ _ ⟨w.heap.size, 0, none⟩ ⟨w.heap.size + 1, 0, none⟩ (.agg Tryd.zeroCells36) (errOf q) rfl rfl hL hL2, q, rfl, hFf, hBf⟩

theorem peekLen_le {l : List UInt8} (h : peekBad l = none) : peekLen l ≤ 1065203 := by
  have := (headL_of h).2.2.2.2
  unfold peekLen
  omega
theorem whole_parts {l : List UInt8} (h : peekBad l = none) (hl : l.length = peekLen l) :
    l.take (l.length - 4) = preL (l.getD 5 0) ((l.take (l.length - 4)).drop 10) ∧ ((l.take (l.length - 4)).drop 10).length = numL (segL l 6 4) := by
  obtain ⟨h1, h2, h3, h4, h5⟩ := headL_of h
  have l6 : (segL l 6 4).length = 4 := segL_len (by omega)
  unfold peekLen at hl
  have hbl : ((l.take (l.length - 4)).drop 10).length = numL (segL l 6 4) := by simp; omega
  refine ⟨?_, hbl⟩
  unfold preL
  rw [hbl, four_numL l6]
  have e := List.take_append_drop 10 (l.take (l.length - 4))
  rw [List.take_take, Nat.min_eq_left (by omega)] at e
  have e2 : l.take 10 = [82, 73, 77, 69, 1, l.getD 5 0] ++ segL l 6 4 := by
    conv => lhs; rw [h1]
    simp [headL, l6]
  rw [e2] at e
  exact e.symm
/-- Decode of any bytes. -/
theorem decode_any (A : Option Addr) (c : Nat) (l : List UInt8) (w : World) (hb : Bs w A l) (hl : l.length ≤ 140737488355328) (hc : l.length ≤ c) :
    Calls Tryd.prog 11 #[.slice A l.length c] w (DecPost w (decF l)) := by
  have hpk := fun w1 (h1 : Below w.heap.size w w1) => peek_any A c l w1 (hb.on h1) hl hc
  obtain ⟨dr, hdr⟩ : ∃ dr, decF l = dr := ⟨_, rfl⟩
  rw [hdr]
  unfold decF at hdr
  cases hp : peekBad l with
  | some f =>
    rw [hp] at hdr
    subst hdr
    refine (decode_peekbad A l.length c f w fun w1 h1 => (hpk w1 h1).mono fun e w' h => ?_).mono fun e w' h => DecPost.bad rfl h
    unfold PeekPost at h
    rw [hp] at h
    exact h
  | none =>
    rw [hp] at hdr
    simp only at hdr
    have hpk2 := fun w1 (h1 : Below w.heap.size w w1) => (hpk w1 h1).mono fun e w' (h : PeekPost w1 l e w') => (by
      unfold PeekPost at h
      rw [hp] at h
      exact h : e = .returned (.tuple #[.int .i64 (nb (l.getD 5 0)), .int .i64 (peekLen l : Int)]) ∧ ∃ m, w' = w1.drewN m)
    have hL := peekLen_le hp
    by_cases h1 : l.length < peekLen l
    · rw [if_pos h1] at hdr
      subst hdr
      exact (decode_lshort A l.length c (peekLen l) (l.getD 5 0) w hpk2 h1 hl (by omega)).mono fun e w' h => DecPost.bad rfl h
    rw [if_neg h1] at hdr
    by_cases h2 : peekLen l < l.length
    · rw [if_pos h2] at hdr
      subst hdr
      exact (decode_ltail A l.length c (peekLen l) (l.getD 5 0) w hpk2 h2 hl (by omega)).mono fun e w' h => DecPost.bad rfl h
    rw [if_neg h2] at hdr
    have hlen : l.length = peekLen l := by omega
    obtain ⟨g1, g2⟩ := whole_parts hp hlen
    obtain ⟨q1, q2, q3, q4, q5⟩ := headL_of hp
    have hsp : l = preL (l.getD 5 0) ((l.take (l.length - 4)).drop 10) ++ l.drop (l.length - 4) := by
      rw [← g1, List.take_append_drop]
    have h4 : (l.drop (l.length - 4)).length = 4 := by simp; omega
    have hpl : peekLen l = 14 + numL (segL l 6 4) := rfl
    obtain ⟨b, o, rfl, hcell⟩ := hb (by omega)
    have hlt : b < w.heap.size := cell_lt (hcell 0 (by omega))
    rw [g1] at hdr
    generalize (l.take (l.length - 4)).drop 10 = body at g1 g2 hsp hdr
    generalize l.drop (l.length - 4) = s4 at h4 hsp hdr
    generalize l.getD 5 0 = kd at *
    have hN : body.length = numL (segL l 6 4) := g2
    have hb2 : Bs w (some ⟨b, o, none⟩) (preL kd body ++ s4) := by rw [← hsp]; exact hb
    generalize l.length = L at *
    by_cases h5 : (sha (preL kd body)).take 4 ≠ s4
    · rw [if_pos h5] at hdr
      subst hdr
      refine (decode_sumbad b o c kd body s4 w body.length L (L - 4) q3 q4 rfl (by omega) h4 (by omega) (by omega) hc hlt (fun e => h5 e.symm) hb2).mono fun e w' h => DecPost.bad rfl ?_
      exact h
    rw [if_neg h5] at hdr
    have h6 : s4 = (sha (preL kd body)).take 4 := (Classical.not_not.1 h5).symm
    have hk : nb kd = 1 ∨ nb kd = 2 ∨ nb kd = 3 ∨ nb kd = 4 ∨ nb kd = 5 ∨ nb kd = 6 := by omega
    rcases hk with hk | hk | hk | hk | hk | hk
    · exact decode_k1 b o c kd body s4 w body.length L (L - 4) q3 q4 rfl (by omega) h4 (by omega) (by omega) hc hlt hk h6 hb2 dr hdr
    · exact decode_k2 b o c kd body s4 w body.length L (L - 4) q3 q4 rfl (by omega) h4 (by omega) (by omega) hc hlt hk h6 hb2 dr hdr
    · exact decode_k3 b o c kd body s4 w body.length L (L - 4) q3 q4 rfl (by omega) h4 (by omega) (by omega) hc hlt hk h6 hb2 dr hdr
    · exact decode_k4 b o c kd body s4 w body.length L (L - 4) q3 q4 rfl (by omega) h4 (by omega) (by omega) hc hlt hk h6 hb2 dr hdr
    · exact decode_k5 b o c kd body s4 w body.length L (L - 4) q3 q4 rfl (by omega) h4 (by omega) (by omega) hc hlt hk h6 hb2 dr hdr
    · exact decode_k6 b o c kd body s4 w body.length L (L - 4) q3 q4 rfl (by omega) h4 (by omega) (by omega) hc hlt hk h6 hb2 dr hdr
end Go.Proofs.YtmnmmabhmedioaaDoor
