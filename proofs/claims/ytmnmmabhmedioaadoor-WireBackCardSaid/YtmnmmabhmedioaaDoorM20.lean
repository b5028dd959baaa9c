/- Wire: the law's 'named'; Peek. -/
import Derived.Test.YtmnmmabhmedioaaDoorM1
import Derived.Test.YtmnmmabhmedioaaDoorM19
namespace Go.Proofs.YtmnmmabhmedioaaDoor
open Go.RowKit
set_option linter.unusedVariables false
set_option linter.unusedSimpArgs false
set_option maxRecDepth 100000

/-- The variable of package errors that errors.As reads. -/
def ErrT (w : World) : Prop := w.cell? ⟨0, 0, none⟩ = some (.iface 200 (.agg #[.pointer (some ⟨4, 38, none⟩)]))
theorem ErrT.on {w w' : World} (h : ErrT w) (k : Below w.heap.size w w') : ErrT w' := cell_on k h
theorem as_hitK (e : Addr) (b : Nat) (old : Value) (w : World) (hg : ErrT w) (ht : w.heap[b]? = some (.cells #[old] 79 (0, 0))) :
    Calls Tryd.prog 74 #[.iface 79 (.pointer (some e)), .iface 152 (.pointer (some ⟨b, 0, none⟩))] w fun ev w' => ev = .returned (.bool true) ∧ Keep (fun k => k = b) w w' ∧ w'.heap[b]? = some (.cells #[.pointer (some e)] 79 (0, 0)) := by
  refine (as_hit e ⟨b, 0, none⟩ old w hg (cell_of ht rfl) (free_of ht)).mono ?_
  rintro ev w' ⟨rfl, rfl⟩
  refine ⟨rfl, (((Keep.alloc _).trans (Keep.alloc _)).trans ((Keep.alloc _).trans (Keep.alloc _))).trans (Keep.set (fun k => k = b) b 0 _ rfl), ?_⟩
  refine heap_set (cs := #[old]) ?_ (.pointer (some e))
  exact (((Keep.alloc (D := fun _ => False) _).trans (Keep.alloc _)).trans ((Keep.alloc _).trans (Keep.alloc _))).heap id ht
def whyOk (n : Int) : Prop := n = 1 ∨ n = 2 ∨ n = 3 ∨ n = 4 ∨ n = 8 ∨ n = 10 ∨ n = 101 ∨ n = 102 ∨ n = 103 ∨ n = 104 ∨ n = 152
set_option maxHeartbeats 16000000 in
theorem named_true (q : Nat) (f : FD) (w : World) (hF : FaultAt w q f) (hg : ErrT w) (h1 : f.field ≠ []) (h2 : 0 ≤ f.at_) (h3 : whyOk f.why) :
    Calls Tryd.prog 33 #[errOf q] w fun e w' => e = .returned (.bool true) ∧ Below w.heap.size w w' := by
  have hB := boxed w (.cells #[.pointer none] 79)
  have ht := heap_alloc_new w (.cells #[.pointer none] 79)
  have hF1 := hF.on hB
  have hg1 := hg.on hB
  have hql := heap_lt hF
  obtain ⟨fl, fa, fw⟩ := f
  have hfe : fl.isEmpty = false := by simpa using h1
  have hfn : ¬ fl = [] := h1
  replace hF := Lib.hid hF
  replace hg := Lib.hid hg
  go_enter Tryd.func33, Tryd.ntmps33
  go_upto_region 2 with fail
  generalize w.alloc (.cells #[.pointer none] 79) = w1 at hB ht hF1 hg1 ⊢
  replace hB := Lib.hid hB
  replace hF1 := Lib.hid hF1
  replace hg1 := Lib.hid hg1
  replace ht := Lib.hid ht
  go_wp2_with fail
  refine (as_hitK ⟨q, 0, none⟩ w.heap.size _ w1 hg1.out ht.out).mono ?_
  rintro e w2 ⟨rfl, hK2, ht2⟩
  have hF2 : FaultAt w2 q ⟨fl, fa, fw⟩ := hK2.heap (show ¬ q = w.heap.size by omega) hF1.out
  have hB2 := below_keep hB.out hK2 (fun i e => by omega) hB.out.size
  have t0 : w2.cell? ⟨w.heap.size, 0, none⟩ = some (.pointer (some ⟨q, 0, none⟩)) := cell_of ht2 rfl
  have c0 : w2.cell? ⟨q, 0, none⟩ = some (.string ⟨fl.toArray⟩) := cell_of hF2 rfl
  have c1 : w2.cell? ⟨q, 1, none⟩ = some (.int .i64 fa) := cell_of hF2 rfl
  have c2 : w2.cell? ⟨q, 2, none⟩ = some (.int .i64 fw) := cell_of hF2 rfl
  have hfa : ¬ fa < 0 := by have : (0 : Int) ≤ fa := h2; omega
  replace hB2 := Lib.hid hB2
  replace hF2 := Lib.hid hF2
  clear hB hF1 hg1 ht hK2 ht2
  rcases h3 with h3 | h3 | h3 | h3 | h3 | h3 | h3 | h3 | h3 | h3 | h3
  all_goals
    obtain rfl : fw = _ := h3
    go_wp2_with (go_at_call 49; refine (is_faultB q _ w2 hF2.out).mono ?_; rintro e w3 ⟨rfl, hB3⟩)
    go_ret
    exact ⟨rfl, later hB2.out hB3⟩

/-! ### Peek -/
theorem results_ssc {P : Program} {fn : Func} {p1 p2 p3 : Tmp} {t3 : TypeId} (h : fn.results = #[.tmp p1, .tmp p2, .cell p3 t3]) (tmps : Array Value) (w : World) (a3 : Addr) (v1 v2 v3 : Value)
    (hp1 : tmps.getD p1 undef = v1) (hp2 : tmps.getD p2 undef = v2) (hp3 : tmps.getD p3 undef = .pointer (some a3)) (h3 : (loadVar t3 a3).run P w = .ok v3 w) :
    (results fn tmps).run P w = .ok (.tuple #[v1, v2, v3]) w := by
  have hp1' : tmps[p1]?.getD undef = v1 := by simpa using hp1
  have hp2' : tmps[p2]?.getD undef = v2 := by simpa using hp2
  have hp3' : tmps[p3]?.getD undef = .pointer (some a3) := by simpa using hp3
  simp [results, h, hp1', hp2', hp3', asAddr, h3]
def PeekXPost (w : World) (l : List UInt8) (e : Ending) (w' : World) : Prop :=
  match peekBad l with
  | some f => ∃ q, e = .returned (.tuple #[.int .i64 0, .int .i64 0, errOf q]) ∧ FaultAt w' q f ∧ Below w.heap.size w w'
  | none => e = .returned (.tuple #[.int .i64 (nb (l.getD 5 0)), .int .i64 (peekLen l : Int), .nilIface]) ∧ Below w.heap.size w w'
set_option maxHeartbeats 16000000 in
theorem peekX_any (A : Option Addr) (c : Nat) (l : List UInt8) (w : World) (hb : Bs w A l) (hl : l.length ≤ 140737488355328) (hc : l.length ≤ c) :
    Calls Tryd.prog 22 #[.slice A l.length c] w (PeekXPost w l) := by
  have hB := boxed w (.cells #[.nilIface] 38)
  have hE := heap_alloc_new w (.cells #[.nilIface] 38)
  have hsz : (w.alloc (.cells #[.nilIface] 38)).heap.size = w.heap.size + 1 := by simp
  have hpk := peek_any A c l _ (hb.on hB) hl hc
  cases hp : peekBad l with
  | some f =>
    have hpk2 : Calls Tryd.prog 37 #[.slice A l.length c] (w.alloc (.cells #[.nilIface] 38)) (PeekBad (w.alloc (.cells #[.nilIface] 38)) f) := hpk.mono fun e w' h => by
      unfold PeekPost at h
      rw [hp] at h
      exact h
    have hpost : ∀ e w', (∃ q, e = .returned (.tuple #[.int .i64 0, .int .i64 0, errOf q]) ∧ FaultAt w' q f ∧ Below w.heap.size w w') → PeekXPost w l e w' := fun e w' h => by
      unfold PeekXPost
      rw [hp]
      exact h
    replace hpost := Lib.hid hpost
    generalize l.length = n at hpk2 ⊢
    clear hpk hp hl hc hb
    go_enter_defers Tryd.func22, Tryd.ntmps22
    go_upto_region 2 with fail
    generalize w.alloc (.cells #[.nilIface] 38) = w1 at hB hE hsz hpk2 ⊢
    replace hE := Lib.hid hE
    replace hB := Lib.hid hB
    go_wp2_with fail
    refine hpk2.mono ?_
    rintro e w2 ⟨q, rfl, hq, hF, hB2⟩
    have hE3 := heap_on hB2 hE.out
    have hB33 := later' hB.out hB2
    have ce : w2.cell? ⟨w.heap.size, 0, none⟩ = some .nilIface := cell_of hE3 rfl
    have cf : w2.frozen? ⟨w.heap.size, 0, none⟩ = false := free_of hE3
    have hq2 : w.heap.size + 1 ≤ q := by omega
    clear hE hB hB2 hpk2 hq
    replace hE3 := Lib.hid hE3
    replace hF := Lib.hid hF
    replace hB33 := Lib.hid hB33
    go_wp2_with fail
    have hEf := cell_of (heap_set (o := 0) hE3.out (errOf q)) (off := 0) rfl
    have hKf : Keep (fun k => k = w.heap.size) w2 (w2.setCell ⟨w.heap.size, 0, none⟩ (errOf q)) := Keep.set (fun k => k = w.heap.size) _ _ _ rfl
    have hFf := hKf.heap (show ¬ q = w.heap.size by omega) hF.out
    have hBf := below_keep hB33.out hKf (fun i e => by omega) hB33.out.size
    have hL2 : (loadVar 38 ⟨w.heap.size, 0, none⟩).run Tryd.prog (w2.setCell ⟨w.heap.size, 0, none⟩ (errOf q)) = .ok (errOf q) (w2.setCell ⟨w.heap.size, 0, none⟩ (errOf q)) := by simp [go_sem, hEf]
    refine leaves_cons (f := 36) (args := #[.pointer (some ⟨w.heap.size, 0, none⟩)]) (by simp) (by simp [go_sem]) ?_
    refine (caught_panicking ⟨w.heap.size, 0, none⟩ q .nilIface [] _ ce cf).mono ?_
    rintro e u' w'' ⟨rfl, rfl, rfl⟩
    exact ⟨_, results_ssc rfl _ _ ⟨w.heap.size, 0, none⟩ (.int .i64 0) (.int .i64 0) (errOf q) rfl rfl rfl hL2, hpost.out _ _ ⟨q, rfl, hFf, hBf⟩⟩
  | none =>
    have hpk2 : Calls Tryd.prog 37 #[.slice A l.length c] (w.alloc (.cells #[.nilIface] 38)) (fun e w' => e = .returned (.tuple #[.int .i64 (nb (l.getD 5 0)), .int .i64 (peekLen l : Int)]) ∧ ∃ m, w' = (w.alloc (.cells #[.nilIface] 38)).drewN m) := hpk.mono fun e w' h => by
      unfold PeekPost at h
      rw [hp] at h
      exact h
    have hpost : ∀ e w', (e = .returned (.tuple #[.int .i64 (nb (l.getD 5 0)), .int .i64 (peekLen l : Int), .nilIface]) ∧ Below w.heap.size w w') → PeekXPost w l e w' := fun e w' h => by
      unfold PeekXPost
      rw [hp]
      exact h
    replace hpost := Lib.hid hpost
    generalize l.length = n at hpk2 ⊢
    generalize nb (l.getD 5 0) = kd at hpk2 hpost
    generalize peekLen l = L at hpk2 hpost
    clear hpk hp hl hc hb
    go_enter_defers Tryd.func22, Tryd.ntmps22
    go_upto_region 2 with fail
    generalize w.alloc (.cells #[.nilIface] 38) = w1 at hB hE hsz hpk2 ⊢
    go_wp2_with fail
    refine hpk2.mono ?_
    rintro e w2 ⟨rfl, md, hw2⟩
    have hE2 : w2.heap[w.heap.size]? = some (.cells #[.nilIface] 38 (0, 0)) := by rw [hw2]; exact hE
    have hB2 : Below w.heap.size w w2 := by rw [hw2]; exact below_drewN hB md
    have c0 : w2.cell? ⟨w.heap.size, 0, none⟩ = some .nilIface := cell_of hE2 rfl
    have f0 : w2.frozen? ⟨w.heap.size, 0, none⟩ = false := free_of hE2
    replace hE2 := Lib.hid hE2
    replace hB2 := Lib.hid hB2
    clear hw2 hE hB hpk2
    go_wp2_with fail
    have hEz : (w2.setCell ⟨w.heap.size, 0, none⟩ .nilIface).cell? ⟨w.heap.size, 0, none⟩ = some .nilIface := cell_of (heap_set hE2.out _) rfl
    have hBz := hB2.out.setCell (p := ⟨w.heap.size, 0, none⟩) (Nat.le_refl _) .nilIface
    have hL2 : (loadVar 38 ⟨w.heap.size, 0, none⟩).run Tryd.prog (w2.setCell ⟨w.heap.size, 0, none⟩ .nilIface) = .ok .nilIface (w2.setCell ⟨w.heap.size, 0, none⟩ .nilIface) := by simp [go_sem, hEz]
    refine leaves_cons (f := 36) (args := #[.pointer (some ⟨w.heap.size, 0, none⟩)]) (by simp) (by simp [go_sem]) ?_
    refine (caught_idle ⟨w.heap.size, 0, none⟩ _).mono ?_
    rintro e u' w'' ⟨rfl, rfl, rfl⟩
    exact ⟨_, results_ssc rfl _ _ ⟨w.heap.size, 0, none⟩ (.int .i64 kd) (.int .i64 (L : Int)) .nilIface rfl rfl rfl hL2, hpost.out _ _ ⟨rfl, hBz⟩⟩
end Go.Proofs.YtmnmmabhmedioaaDoor
/- Wire: plain: every fault of Decode's and Encode's has a name. -/
namespace Go.Proofs.YtmnmmabhmedioaaDoor
set_option linter.unusedVariables false
set_option linter.unusedSimpArgs false

/-- A fault that the law calls named. -/
structure NamedF (f : FD) : Prop where
  field : f.field ≠ []
  at0 : 0 ≤ f.at_
  why : whyOk f.why
  len : f.field.length ≤ 100
  why0 : 0 ≤ f.why
  why1 : f.why ≤ 300
theorem named_mk {field : List UInt8} {a w : Int} (h1 : field ≠ []) (h2 : 0 ≤ a) (h3 : whyOk w) (h4 : field.length ≤ 100) : NamedF ⟨field, a, w⟩ := ⟨h1, h2, h3, h4, by unfold whyOk at h3; show 0 ≤ w; omega, by unfold whyOk at h3; show w ≤ 300; omega⟩
theorem peekBad_named {l : List UInt8} {f : FD} (h : peekBad l = some f) : NamedF f := by
  unfold peekBad at h
  by_cases h0 : l.length ≤ 0
  · rw [if_pos h0] at h
    obtain rfl := Option.some.inj h
    exact named_mk (by decide) (by omega) (by unfold whyOk; omega) (by decide)
  rw [if_neg h0] at h
  by_cases h1 : l.getD 0 0 ≠ 82
  · rw [if_pos h1] at h
    obtain rfl := Option.some.inj h
    exact named_mk (by decide) (by omega) (by unfold whyOk; omega) (by decide)
  rw [if_neg h1] at h
  by_cases h2 : l.length ≤ 1
  · rw [if_pos h2] at h
    obtain rfl := Option.some.inj h
    exact named_mk (by decide) (by omega) (by unfold whyOk; omega) (by decide)
  rw [if_neg h2] at h
  by_cases h3 : l.getD 1 0 ≠ 73
  · rw [if_pos h3] at h
    obtain rfl := Option.some.inj h
    exact named_mk (by decide) (by omega) (by unfold whyOk; omega) (by decide)
  rw [if_neg h3] at h
  by_cases h4 : l.length ≤ 2
  · rw [if_pos h4] at h
    obtain rfl := Option.some.inj h
    exact named_mk (by decide) (by omega) (by unfold whyOk; omega) (by decide)
  rw [if_neg h4] at h
  by_cases h5 : l.getD 2 0 ≠ 77
  · rw [if_pos h5] at h
    obtain rfl := Option.some.inj h
    exact named_mk (by decide) (by omega) (by unfold whyOk; omega) (by decide)
  rw [if_neg h5] at h
  by_cases h6 : l.length ≤ 3
  · rw [if_pos h6] at h
    obtain rfl := Option.some.inj h
    exact named_mk (by decide) (by omega) (by unfold whyOk; omega) (by decide)
  rw [if_neg h6] at h
  by_cases h7 : l.getD 3 0 ≠ 69
  · rw [if_pos h7] at h
    obtain rfl := Option.some.inj h
    exact named_mk (by decide) (by omega) (by unfold whyOk; omega) (by decide)
  rw [if_neg h7] at h
  by_cases h8 : l.length ≤ 4
  · rw [if_pos h8] at h
    obtain rfl := Option.some.inj h
    exact named_mk (by decide) (by omega) (by unfold whyOk; omega) (by decide)
  rw [if_neg h8] at h
  by_cases h9 : l.getD 4 0 ≠ 1
  · rw [if_pos h9] at h
    obtain rfl := Option.some.inj h
    exact named_mk (by decide) (by omega) (by unfold whyOk; omega) (by decide)
  rw [if_neg h9] at h
  by_cases h10 : l.length ≤ 5
  · rw [if_pos h10] at h
    obtain rfl := Option.some.inj h
    exact named_mk (by decide) (by omega) (by unfold whyOk; omega) (by decide)
  rw [if_neg h10] at h
  by_cases h11 : ¬ (1 ≤ nb (l.getD 5 0) ∧ nb (l.getD 5 0) ≤ 6)
  · rw [if_pos h11] at h
    obtain rfl := Option.some.inj h
    exact named_mk (by decide) (by omega) (by unfold whyOk; omega) (by decide)
  rw [if_neg h11] at h
  by_cases h12 : l.length < 10
  · rw [if_pos h12] at h
    obtain rfl := Option.some.inj h
    exact named_mk (by decide) (by omega) (by unfold whyOk; omega) (by decide)
  rw [if_neg h12] at h
  by_cases h13 : 1065189 < numL (segL l 6 4)
  · rw [if_pos h13] at h
    obtain rfl := Option.some.inj h
    exact named_mk (by decide) (by omega) (by unfold whyOk; omega) (by decide)
  rw [if_neg h13] at h
  cases h
theorem takeF_named {F field : List UInt8} {fr a n : Nat} {k : List UInt8 → DR} {f : FD} (h : takeF F field fr a n k = .bad f) (h1 : field ≠ []) (h2 : field.length ≤ 100) (hk : ∀ x, k x = .bad f → NamedF f) : NamedF f := by
  unfold takeF at h
  split at h
  · obtain rfl := DR.bad.inj h
    exact named_mk h1 (by omega) (by unfold whyOk; omega) h2
  · exact hk _ h
theorem pairF_named {F field : List UInt8} {a : Nat} {k : Pair → DR} {f : FD} (h : pairF F field a k = .bad f) (h1 : field ≠ []) (h2 : field.length ≤ 100) (hk : ∀ x, k x = .bad f → NamedF f) : NamedF f := by
  unfold pairF at h
  split at h
  · obtain rfl := DR.bad.inj h
    exact named_mk h1 (by omega) (by unfold whyOk; omega) h2
  · split at h
    · obtain rfl := DR.bad.inj h
      exact named_mk h1 (by omega) (by unfold whyOk; omega) h2
    · exact hk _ h
theorem tailF_named {F : List UInt8} {a : Nat} {m : Msg} {f : FD} (h : tailF F a m = .bad f) : NamedF f := by
  unfold tailF at h
  split at h
  · cases h
  · obtain rfl := DR.bad.inj h
    exact named_mk (by decide) (by omega) (by unfold whyOk; omega) (by decide)
theorem listF_named {F : List UInt8} {f : FD} : ∀ (n a : Nat) (ps : List Pair) (k : Nat → List Pair → DR), listF F n a ps k = .bad f → (∀ e ps, k e ps = .bad f → NamedF f) → NamedF f := by
  intro n
  induction n with
  | zero => intro a ps k h hk; exact hk _ _ h
  | succ n ih =>
    intro a ps k h hk
    exact pairF_named h (by decide) (by decide) fun x hx => ih _ _ _ hx hk
theorem restF_named {F : List UInt8} {kd : Int} {m : Msg} {f : FD} (h : restF F kd m = .bad f) : NamedF f := by
  unfold restF at h
  split at h
  · exact pairF_named h (by decide) (by decide) fun _ h => tailF_named h
  split at h
  · refine takeF_named h (by decide) (by decide) fun _ h => listF_named _ _ _ _ h fun e ps h => ?_
    unfold textF at h
    refine takeF_named h (by decide) (by decide) fun x h => ?_
    split at h
    · obtain rfl := DR.bad.inj h
      exact named_mk (by decide) (by omega) (by unfold whyOk; omega) (by decide)
    · exact takeF_named h (by decide) (by decide) fun _ h => tailF_named h
  split at h
  · exact pairF_named h (by decide) (by decide) fun _ h => takeF_named h (by decide) (by decide) fun _ h => takeF_named h (by decide) (by decide) fun _ h => tailF_named h
  split at h
  · refine takeF_named h (by decide) (by decide) fun x h => ?_
    split at h
    · obtain rfl := DR.bad.inj h
      exact named_mk (by decide) (by decide) (by unfold whyOk; omega) (by decide)
    · exact tailF_named h
  split at h
  · exact takeF_named h (by decide) (by decide) fun _ h => tailF_named h
  · exact tailF_named h
theorem decF_named {l : List UInt8} {f : FD} (h : decF l = .bad f) : NamedF f := by
  unfold decF at h
  split at h
  · rename_i g hp
    obtain rfl := DR.bad.inj h
    exact peekBad_named hp
  split at h
  · obtain rfl := DR.bad.inj h
    exact named_mk (by decide) (by omega) (by unfold whyOk; omega) (by decide)
  split at h
  · obtain rfl := DR.bad.inj h
    exact named_mk (by decide) (by omega) (by unfold whyOk; omega) (by decide)
  split at h
  · obtain rfl := DR.bad.inj h
    exact named_mk (by decide) (by omega) (by unfold whyOk; omega) (by decide)
  unfold bodyF at h
  exact takeF_named h (by decide) (by decide) fun _ h => takeF_named h (by decide) (by decide) fun _ h => takeF_named h (by decide) (by decide) fun _ h => restF_named h
theorem faultM_named {m : Msg} {f : FD} (h : faultM m = some f) : NamedF f := by
  unfold faultM at h
  repeat' split at h
  all_goals first
    | (cases h; done)
    | (obtain rfl := Option.some.inj h; exact named_mk (by decide) (by omega) (by unfold whyOk; omega) (by decide))
end Go.Proofs.YtmnmmabhmedioaaDoor
/- Wire: the law WireBack: the walk. (Printed by gen_back.py.) -/
namespace Go.Proofs.YtmnmmabhmedioaaDoor
open Go.RowKit
set_option linter.unusedVariables false
set_option linter.unusedSimpArgs false
set_option maxRecDepth 100000

theorem MsgIn.keep {D : Nat → Prop} {w w' : World} {cs : Array Value} {m : Msg} {LA : Option Addr} {lc : Nat} {TA : Option Addr} {tc : Nat} (k : Keep D w w') (hl : ∀ a, LA = some a → ¬ D a.block) (ht : ∀ a, TA = some a → ¬ D a.block) (h : MsgIn w cs m LA lc TA tc) : MsgIn w' cs m LA lc TA tc :=
  ⟨h.cells, h.llc, h.ltc, fun h0 => by
    obtain ⟨b, o, rfl, hc⟩ := h.list h0
    exact ⟨b, o, rfl, fun i hi j v hv => k.cell (a := ⟨b, o + i * 65 + j, none⟩) (hl ⟨b, o, none⟩ rfl) (hc i hi j v hv)⟩, h.text.keep k ht, h.pok, h.lsz, h.tsz⟩
set_option maxHeartbeats 4000000 in
theorem usedw_any (c1 : Array Value) (m : Msg) (LA : Option Addr) (lc : Nat) (TA : Option Addr) (tc : Nat) (w : World) (hM : MsgIn w c1 m LA lc TA tc) (hf : faultM m = none) : Calls Tryd.prog 20 #[.agg c1] w (UsedPost w m) := by
  have hX : ((w.alloc (.cells c1 36)).alloc (.cells Tryd.zeroCells36 36)).heap[w.heap.size]? = some (.cells c1 36 (0, 0)) := by
    rw [heap_alloc?, if_neg (by simp)]; exact heap_alloc_new w _
  have hY : ((w.alloc (.cells c1 36)).alloc (.cells Tryd.zeroCells36 36)).heap[w.heap.size + 1]? = some (.cells Tryd.zeroCells36 36 (0, 0)) := by
    rw [heap_alloc?, if_pos (by simp)]
  have hB : Below w.heap.size w ((w.alloc (.cells c1 36)).alloc (.cells Tryd.zeroCells36 36)) := later (boxed _ _) (boxed _ _)
  have hs : w.heap.size + 2 ≤ ((w.alloc (.cells c1 36)).alloc (.cells Tryd.zeroCells36 36)).heap.size := by simp
  have hif1 : (Tryd.prog.info? 36).map (·.size) = some c1.size := by rw [hM.cells.size]; kernel_rfl
  replace hM := Lib.hid hM
  replace hf := Lib.hid hf
  go_enter Tryd.func20, Tryd.ntmps20
  go_upto_region 1 with fail
  generalize (w.alloc (.cells c1 36)).alloc (.cells Tryd.zeroCells36 36) = W at *
  have rX := Lib.hid (rowAt_all hX)
  replace hX := Lib.hid hX
  replace hY := Lib.hid hY
  go_wp2_with (refine wpList_loadM _ rfl _ _ rfl w.heap.size 0 rfl c1 rX.out _ Tryd.underlying36 rfl hif1 ?_)
  refine (used_any c1 m LA lc TA tc W (hM.out.on hB) hf.out).mono ?_
  rintro e w1 ⟨cs, LB, ld, TB, td, rfl, h1, h2, h3, h4⟩
  have hif : (Tryd.prog.info? 36).map (·.size) = some cs.size := by rw [h1.cells.size]; kernel_rfl
  have hzD : Tryd.zeroCells36.size = cs.size := by rw [h1.cells.size]; exact zC_size
  have hone := h1.cells.one rfl rfl
  have hY1 := Lib.hid (heap_on h2 hY.out)
  have hKy := setRow_keep w1 (w.heap.size + 1) cs
  have hYz := setRow_heap w1 (w.heap.size + 1) _ cs _ _ hY1.out
  have hM2 := h1.keep hKy (fun a ha => by have := h3 a ha; omega) (fun a ha => by have := h4 a ha; omega)
  have hB2 := below_keep (later' hB h2) hKy (fun i e => by omega) (later' hB h2).size
  have hl : ∀ a, LB = some a → w.heap.size ≤ a.block := fun a ha => by have := h3 a ha; omega
  have ht : ∀ a, TB = some a → w.heap.size ≤ a.block := fun a ha => by have := h4 a ha; omega
  replace hM2 := Lib.hid hM2
  replace hB2 := Lib.hid hB2
  replace hl := Lib.hid hl
  replace ht := Lib.hid ht
  replace hYz := Lib.hid hYz
  clear h1 h2 h3 h4 hB hX hY rX hKy
  go_wp2_with (refine wpList_storeW _ rfl _ _ _ rfl (w.heap.size + 1) cs rfl rfl _ _ hY1.out hif hzD hone ?_)
  have hL := run_loadVar_row (P := Tryd.prog) _ (w.heap.size + 1) 36 36 cs (0, 0) _ hYz.out Tryd.underlying36 rfl hif
  exact bodyPost_ret (v := .agg cs) (results_cell1 rfl _ _ ⟨w.heap.size + 1, 0, none⟩ (.agg cs) rfl hL) rfl ⟨cs, LB, ld, TB, td, rfl, hM2.out, hB2.out, hl.out, ht.out⟩

theorem OwnB.cap {w : World} {base : Nat} {A : Option Addr} {c : Nat} {l : List UInt8} (h : OwnB w base A c l) : l.length ≤ c := by
  rcases h.form with ⟨_, h1, h2⟩ | ⟨g, cur, _, _, _, h4⟩
  · rw [h2]; simp
  · exact h4
/-- What a decoded message is, to its reader. -/
theorem usedM_small {n : Msg} (hf : faultM n = none) (hu : usedM n = n) : n.list.length ≤ 255 ∧ n.text.length ≤ 1048575 := by
  have am := mayBe hf
  by_cases h : n.kind = 3
  · exact ⟨(am.lst h).1, (am.lst h).2.1⟩
  · rw [← hu]
    unfold usedM
    by_cases h2 : n.kind = 2
    · simp [h2, baseM]
    by_cases h4 : n.kind = 4
    · simp [h4, baseM]
    by_cases h5 : n.kind = 5
    · simp [h5, baseM]
    by_cases h6 : n.kind = 6
    · simp [h6, baseM]
    simp [h, h2, h4, h5, h6, baseM]
theorem usedM_used (m : Msg) : usedM (usedM m) = usedM m := by
  have hk := (bodyM_used (m := m)).2
  unfold usedM at hk ⊢
  by_cases h2 : m.kind = 2
  · simp [h2, baseM]
  by_cases h3 : m.kind = 3
  · simp [h3, baseM]
  by_cases h4 : m.kind = 4
  · simp [h4, baseM]
  by_cases h5 : m.kind = 5
  · simp [h5, baseM]
  by_cases h6 : m.kind = 6
  · simp [h6, baseM]
  simp [h2, h3, h4, h5, h6, baseM]
theorem msgIn_of {w w' : World} {cs : Array Value} {n : Msg} {LB : Option Addr} {lb : Nat} {TB : Option Addr} {tb : Nat} (hs : n.list.length ≤ 255 ∧ n.text.length ≤ 1048575) (hMC : MsgC cs n (.slice LB n.list.length lb) (.slice TB n.text.length tb)) (hOP : OwnP w' w.heap.size LB lb n.list) (hOB : OwnB w' w.heap.size TB tb n.text) (hpo : PairsOk n.list) : MsgIn w' cs n LB lb TB tb :=
  ⟨hMC, hOP.cap, hOB.cap, hOP.pairs hpo.mem, hOB.bs, hpo, by omega, by omega⟩
theorem zC_in (w : World) : MsgIn w Tryd.zeroCells36 zM none 0 none 0 :=
  ⟨zC_msg, Nat.le_refl _, Nat.le_refl _, PairsIn.nil _ _, Bs.nil _ _, PairsOk.nil, by decide, by decide⟩

set_option maxHeartbeats 16000000 in
theorem back_b1 (c1 : Array Value) (m : Msg) (LA : Option Addr) (lc : Nat) (TA : Option Addr) (tc : Nat) (A : Option Addr) (c : Nat) (l : List UInt8) (w : World) (hM : MsgIn w c1 m LA lc TA tc) (ht : Tab w.heap.size w) (hg : ErrT w) (hb : Bs w A l) (hl : l.length ≤ 140737488351232) (hc : l.length ≤ c) (f1 : FD) (hf : faultM m = some f1) (f : FD) (hd : decF l = .bad f) : Calls Tryd.prog 9 #[.agg c1, .slice A l.length c] w fun e w' => e = .returned (.bool true) ∧ Below w.heap.size w w' := by
  replace hd := hd
  have hX := heap_alloc_new w (.cells c1 36)
  have hB := boxed w (.cells c1 36)
  have hif1 : (Tryd.prog.info? 36).map (·.size) = some c1.size := by rw [hM.cells.size]; kernel_rfl
  replace hM := Lib.hid hM
  replace ht := Lib.hid ht
  replace hg := Lib.hid hg
  replace hb := Lib.hid hb
  have g1 := err_eq
  have g2 := err_ne
  have g3 := nil_eq
  have g4 := nil_ne
  go_enter Tryd.func9, Tryd.ntmps9
  go_upto_region 1 with fail
  generalize w.alloc (.cells c1 36) = w1 at hX hB ⊢
  have hX1 := Lib.hid (rowAt_all hX)
  replace hB := Lib.hid hB
  go_wp2_with fail
  refine (works_any w1 (ht.out.on hB.out)).mono ?_
  rintro e w2 ⟨rfl, hBn⟩
  have hX2 := Lib.hid (hX1.out.on hBn)
  have hXh := Lib.hid (heap_on hBn hX)
  have hB12 := Lib.hid (later hB.out hBn)
  clear hX hX1 hB hBn
  go_wp2_with (refine wpList_loadM _ rfl _ _ rfl w.heap.size 0 rfl c1 hX2.out _ Tryd.underlying36 rfl hif1 ?_)
  refine (encode_bad c1 m LA lc TA tc _ (hM.out.on hB12.out) f1 hf).mono ?_
  rintro e w3 ⟨q1, rfl, hF3, hBn⟩
  have hB13 := Lib.hid (later hB12.out hBn)
  have hnf := faultM_named hf
  replace hF3 := Lib.hid hF3
  clear hX2 hXh hB12 hBn
  go_wp2_with fail
  refine (named_true q1 f1 w3 hF3.out (hg.out.on hB13.out) hnf.field hnf.at0 hnf.why).mono ?_
  rintro e w8 ⟨rfl, hBn⟩
  have hB8 := Lib.hid (later hB13.out hBn)
  clear hF3 hB13 hBn hnf
  have hb8 := hb.out.on hB8.out
  have hdec := decode_any A c l w8 hb8 (by omega) hc
  rw [hd] at hdec
  replace hb8 := Lib.hid hb8
  replace hdec := Lib.hid hdec
  go_wp2_with fail
  refine hdec.out.mono ?_
  rintro e w9 ⟨q, rfl, hF, hBn⟩
  have hnf := decF_named hd
  have hone := zC_one
  have hcz := zC_size
  have hif2 := zC_info
  clear hdec hd
  have hz := Lib.hid (heap_alloc_new w9 (.cells Tryd.zeroCells36 36))
  have hrow : (w9.alloc (.cells Tryd.zeroCells36 36)).setRow w9.heap.size Tryd.zeroCells36 = w9.alloc (.cells Tryd.zeroCells36 36) := World.setRow_alloc_new _ _ _ _
  have hBx := boxed w9 (.cells Tryd.zeroCells36 36)
  have hrw := Lib.hid (heap_alloc_new w9 (.cells Tryd.zeroCells36 36))
  have hF10 := Lib.hid (hF.on hBx)
  have hB10 := Lib.hid (later hB8.out (later hBn hBx))
  clear hF hBn
  have hzd : Tryd.zeroCells36.size = Tryd.zeroCells36.size := rfl
  replace hrow := Lib.hid hrow
  clear hBx
  rename_i hK
  refine hK _ _ ?_
  clear hK
  go_upto_region 12 with (refine wpList_storeW _ rfl _ _ _ rfl w9.heap.size Tryd.zeroCells36 rfl rfl _ _ hz.out hif2 hzd hone ?_)
  try rw [hrow.out]
  clear hrow hz hzd hone
  have hs9 : w9.heap.size < (w9.alloc (.cells Tryd.zeroCells36 36)).heap.size := by simp
  generalize hY2 : w9.heap.size = Y2 at hrw hs9 ⊢
  generalize w9.alloc (.cells Tryd.zeroCells36 36) = w10 at hrw hF10 hB10 hs9 ⊢
  replace hY2 := Lib.hid hY2
  have hr10 := Lib.hid (rowAt_all hrw.out)
  clear hrw
  go_wp2_with fail
  refine (named_true q f w10 hF10.out (hg.out.on hB10.out) hnf.field hnf.at0 hnf.why).mono ?_
  rintro e w11 ⟨rfl, hBn⟩
  have hr11 := Lib.hid (hr10.out.on hBn)
  have hB11 := Lib.hid (later hB10.out hBn)
  clear hr10 hB10 hBn hnf hF10
  rename_i hK
  refine hK _ _ ?_
  clear hK
  refine wpList_step (fun K hK => ?_)
  go_simp
  refine hK _ _ ?_
  clear hK
  apply wpList_loadG (b := Y2) (o := 0) (hc := hr11.out) (hu := Tryd.underlying36) (hi := hif2)
  case ho => exact rfl
  case hx => go_simp
  case hd => rfl
  case hw => simp [Region.wanted, yielded]
  go_wp2_with fail
  refine (sameMessage_any Tryd.zeroCells36 Tryd.zeroCells36 zM zM none 0 none 0 none 0 none 0 w11 (zC_in w11) (zC_in w11)).mono ?_
  rintro e w12 ⟨rfl, hBn⟩
  have hB12 := Lib.hid (later hB11.out hBn)
  clear hr11 hB11 hBn
  go_wp2_with fail
  go_ret
  exact ⟨by simp, hB12.out⟩

set_option maxHeartbeats 16000000 in
theorem back_b2 (c1 : Array Value) (m : Msg) (LA : Option Addr) (lc : Nat) (TA : Option Addr) (tc : Nat) (A : Option Addr) (c : Nat) (l : List UInt8) (w : World) (hM : MsgIn w c1 m LA lc TA tc) (ht : Tab w.heap.size w) (hg : ErrT w) (hb : Bs w A l) (hl : l.length ≤ 140737488351232) (hc : l.length ≤ c) (f1 : FD) (hf : faultM m = some f1) (n : Msg) (hd : decF l = .ok n) : Calls Tryd.prog 9 #[.agg c1, .slice A l.length c] w fun e w' => e = .returned (.bool true) ∧ Below w.heap.size w w' := by
  have hX := heap_alloc_new w (.cells c1 36)
  have hB := boxed w (.cells c1 36)
  have hif1 : (Tryd.prog.info? 36).map (·.size) = some c1.size := by rw [hM.cells.size]; kernel_rfl
  replace hM := Lib.hid hM
  replace ht := Lib.hid ht
  replace hg := Lib.hid hg
  replace hb := Lib.hid hb
  have g1 := err_eq
  have g2 := err_ne
  have g3 := nil_eq
  have g4 := nil_ne
  go_enter Tryd.func9, Tryd.ntmps9
  go_upto_region 1 with fail
  generalize w.alloc (.cells c1 36) = w1 at hX hB ⊢
  have hX1 := Lib.hid (rowAt_all hX)
  replace hB := Lib.hid hB
  go_wp2_with fail
  refine (works_any w1 (ht.out.on hB.out)).mono ?_
  rintro e w2 ⟨rfl, hBn⟩
  have hX2 := Lib.hid (hX1.out.on hBn)
  have hXh := Lib.hid (heap_on hBn hX)
  have hB12 := Lib.hid (later hB.out hBn)
  clear hX hX1 hB hBn
  go_wp2_with (refine wpList_loadM _ rfl _ _ rfl w.heap.size 0 rfl c1 hX2.out _ Tryd.underlying36 rfl hif1 ?_)
  refine (encode_bad c1 m LA lc TA tc _ (hM.out.on hB12.out) f1 hf).mono ?_
  rintro e w3 ⟨q1, rfl, hF3, hBn⟩
  have hB13 := Lib.hid (later hB12.out hBn)
  have hnf := faultM_named hf
  replace hF3 := Lib.hid hF3
  clear hX2 hXh hB12 hBn
  go_wp2_with fail
  refine (named_true q1 f1 w3 hF3.out (hg.out.on hB13.out) hnf.field hnf.at0 hnf.why).mono ?_
  rintro e w8 ⟨rfl, hBn⟩
  have hB8 := Lib.hid (later hB13.out hBn)
  clear hF3 hB13 hBn hnf
  have hb8 := hb.out.on hB8.out
  have hdec := decode_any A c l w8 hb8 (by omega) hc
  rw [hd] at hdec
  replace hb8 := Lib.hid hb8
  replace hdec := Lib.hid hdec
  go_wp2_with fail
  refine hdec.out.mono ?_
  rintro e w9 ⟨cs2, LC, lc2, TC, tc2, rfl, hMC, hOP, hOB, hpo, hBn⟩
  obtain ⟨hfn, hfr, hun, hon⟩ := dec_enc hd
  have hN9 := msgIn_of (usedM_small hfn hun) hMC hOP hOB hpo
  have hif3 : (Tryd.prog.info? 36).map (·.size) = some cs2.size := by rw [hMC.size]; kernel_rfl
  have hone := hMC.one rfl rfl
  have hcz := hMC.size
  have hlen : 14 + (bodyM n).length = l.length := by rw [← hfr]; simp [frameL, preL_len, sha_length]; omega
  replace hfn := Lib.hid hfn
  replace hfr := Lib.hid hfr
  replace hun := Lib.hid hun
  clear hdec hMC hOP hOB hpo hon hd
  have hz := Lib.hid (heap_alloc_new w9 (.cells Tryd.zeroCells36 36))
  have hrow : (w9.alloc (.cells Tryd.zeroCells36 36)).setRow w9.heap.size cs2 = w9.alloc (.cells cs2 36) := World.setRow_alloc_new _ _ _ _
  have hBx := boxed w9 (.cells cs2 36)
  have hrw := Lib.hid (heap_alloc_new w9 (.cells cs2 36))
  have hN10 := Lib.hid (hN9.on hBx)
  have hB10 := Lib.hid (later hB8.out (later hBn hBx))
  clear hN9 hBn
  have hzd : Tryd.zeroCells36.size = cs2.size := by rw [hcz]; exact zC_size
  replace hrow := Lib.hid hrow
  clear hBx
  rename_i hK
  refine hK _ _ ?_
  clear hK
  go_upto_region 12 with (refine wpList_storeW _ rfl _ _ _ rfl w9.heap.size cs2 rfl rfl _ _ hz.out hif3 hzd hone ?_)
  try rw [hrow.out]
  clear hrow hz hzd hone
  have hs9 : w9.heap.size < (w9.alloc (.cells cs2 36)).heap.size := by simp
  generalize hY2 : w9.heap.size = Y2 at hrw hs9 ⊢
  generalize w9.alloc (.cells cs2 36) = w10 at hrw hN10 hB10 hs9 ⊢
  replace hY2 := Lib.hid hY2
  have hr10 := Lib.hid (rowAt_all hrw.out)
  clear hrw hb8
  replace hlen := Lib.hid hlen
  go_wp2_with (refine wpList_loadM _ rfl _ _ rfl Y2 0 rfl cs2 hr10.out _ Tryd.underlying36 rfl hif3 ?_)
  refine (encode_good cs2 n LC lc2 TC tc2 w10 hN10.out hfn.out).mono ?_
  rintro e w11 ⟨A2, k2, rfl, hO2, hBn⟩
  rw [hlen.out]
  rw [hfr.out] at hO2
  have hb2 := Lib.hid hO2.bs
  have hb11 := Lib.hid (hb.out.on (later hB10.out hBn))
  have hr11 := Lib.hid (hr10.out.on hBn)
  have hN11 := Lib.hid (hN10.out.on hBn)
  have hB11 := Lib.hid (later hB10.out hBn)
  have hsb : Hid (∀ wx, Below w11.heap.size w11 wx → Calls Tryd.prog 19 #[.slice A2 l.length k2, .slice A l.length c] wx fun e w' => e = .returned (.bool true) ∧ ∃ m, w' = wx.drewN m) := Lib.hid fun wx hx => by
    have h := sameBytes_any A2 A k2 c l l wx (hb2.out.on hx) (hb11.out.on hx) hl hl
    rw [decide_eq_true rfl] at h
    exact h
  have hu2 : Hid (∀ wx, Below w11.heap.size w11 wx → Calls Tryd.prog 20 #[.agg cs2] wx fun e w' => ∃ cs LB ld TB td, e = .returned (.agg cs) ∧ MsgIn w' cs n LB ld TB td ∧ Below wx.heap.size wx w') := Lib.hid fun wx hx => (usedw_any cs2 n LC lc2 TC tc2 wx (hN11.out.on hx) hfn.out).mono fun e w' h => by
    unfold UsedPost at h
    rw [hun.out] at h
    obtain ⟨a1, a2, a3, a4, a5, a6, a7, a8, -, -⟩ := h
    exact ⟨a1, a2, a3, a4, a5, a6, a7, a8⟩
  clear hO2 hBn hr10 hN10 hB10 hb2 hb11
  go_upto_region 15 with fail
  refine wp_region_held_drew (S := fun wx => Below w11.heap.size w11 wx) (by kernel_rfl) ((Below.refl _ _).drew) (fun hHeld => ?_)
  refine wpAnyH_ready (rs := [0]) (by kernel_rfl) (by simp) ?_
  refine AllReadyH.cons rfl (fun K hK => ?_) AllReadyH.nil
  go_simp
  refine hK.out _ _ hHeld (fun hHeld => ?_)
  clear hK
  refine wpAnyH_ready (rs := [1]) (by kernel_rfl) (by simp) ?_
  refine AllReadyH.cons rfl (fun K hK => ?_) AllReadyH.nil
  go_simp
  refine hK.out _ _ hHeld (fun hHeld => ?_)
  clear hK
  refine wpAnyH_ready (rs := [2]) (by kernel_rfl) (by simp) ?_
  refine AllReadyH.cons rfl (fun K hK => ?_) AllReadyH.nil
  go_simp
  refine hK.out _ _ hHeld (fun hHeld => ?_)
  clear hK
  refine wpAnyH_take (i := 3) (v := .slice A2 l.length k2) rfl (by kernel_rfl) (by kernel_rfl) (by kernel_rfl) (fun _ _ _ h => h) (Or.inl ⟨by simp [Region.wanted, yielded, Act.put], ?_⟩) (by assumption) ?_
  · intro w hSw
    go_simp
  refine wpAnyH_take (i := 4) (v := .slice A l.length c) rfl (by kernel_rfl) (by kernel_rfl) (by kernel_rfl) (fun _ _ _ h => h) (Or.inl ⟨by simp [Region.wanted, yielded, Act.put], ?_⟩) (by assumption) ?_
  · intro w hSw
    go_simp
  refine wpAnyH_ready (rs := [5]) (by kernel_rfl) (by simp) ?_
  refine AllReadyH.cons rfl (fun K hK => ?_) AllReadyH.nil
  go_simp
  go_at_call 19
  refine (hsb.out _ hHeld).mono ?_
  rintro e w12 ⟨rfl, dm, hwm⟩
  try go_simp
  refine hK.out _ _ (by first | (rw [hwm]; exact below_drewN hHeld dm) | exact below_drewN (Below.refl _ _) _) (fun hHeld => ?_)
  clear hK
  refine wpAnyH_ready (rs := [6]) (by kernel_rfl) (by simp) ?_
  refine AllReadyH.cons rfl (fun K hK => ?_) AllReadyH.nil
  go_simp
  refine hK.out _ _ hHeld (fun hHeld => ?_)
  clear hK
  refine wpAnyH_ready (rs := [7]) (by kernel_rfl) (by simp) ?_
  refine AllReadyH.cons rfl (fun K hK => ?_) AllReadyH.nil
  go_simp
  refine hK.out _ _ hHeld (fun hHeld => ?_)
  clear hK
  refine wpAnyH_take (i := 8) (v := .agg cs2) rfl (by kernel_rfl) (by kernel_rfl) (by kernel_rfl) (fun _ _ _ h => h) ?_ (by assumption) ?_
  · apply yieldsIf_load_mid (b := Y2) (o := 0) (cs := cs2.toList)
    case ho => exact rfl
    case hx => go_simp
    case hu => exact Tryd.underlying36
    case hd => rfl
    case hw => simp [Region.wanted, yielded, Act.put]
    case hS => exact fun wx hx => (hr11.out.on hx).range
    case hi => simpa using hif3
  refine wpAnyH_take (i := 9) (v := .agg cs2) rfl (by kernel_rfl) (by kernel_rfl) (by kernel_rfl) (fun _ _ _ h => h) ?_ (by assumption) ?_
  · apply yieldsIf_load_mid (b := Y2) (o := 0) (cs := cs2.toList)
    case ho => exact rfl
    case hx => go_simp
    case hu => exact Tryd.underlying36
    case hd => rfl
    case hw => simp [Region.wanted, yielded, Act.put]
    case hS => exact fun wx hx => (hr11.out.on hx).range
    case hi => simpa using hif3
  refine wpAnyH_ready (rs := [10]) (by kernel_rfl) (by simp) ?_
  refine AllReadyH.cons rfl (fun K hK => ?_) AllReadyH.nil
  go_simp
  go_at_call 20
  refine (hu2.out _ hHeld).mono ?_
  rintro e w13 ⟨cs3, L3, l3c, T3, t3c, rfl, hU2, hBu2⟩
  try go_simp
  refine hK.out _ _ (later hHeld hBu2) (fun hHeld => ?_)
  clear hK
  refine wpAnyH_ready (rs := [11]) (by kernel_rfl) (by simp) ?_
  refine AllReadyH.cons rfl (fun K hK => ?_) AllReadyH.nil
  go_simp
  go_at_call 13
  refine (sameMessage_any cs2 cs3 n n LC lc2 TC tc2 L3 l3c T3 t3c _ (hN11.out.on hHeld) hU2).mono ?_
  rintro e w14 ⟨rfl, hBs⟩
  try go_simp
  refine hK.out _ _ (later hHeld hBs) (fun hHeld => ?_)
  clear hK
  refine wpAnyH_ready (rs := [12]) (by kernel_rfl) (by simp) ?_
  refine AllReadyH.cons rfl (fun K hK => ?_) AllReadyH.nil
  go_simp
  refine hK.out _ _ hHeld (fun hHeld => ?_)
  clear hK
  refine wpAnyH_ready (rs := [13]) (by kernel_rfl) (by simp) ?_
  refine AllReadyH.cons rfl (fun K hK => ?_) AllReadyH.nil
  go_simp
  refine hK.out _ _ hHeld (fun hHeld => ?_)
  clear hK
  refine wpAnyH_done (by kernel_rfl) ?_ _
  have hB14 := Lib.hid (later hB11.out hHeld)
  clear hsb hu2 hHeld hr11 hN11 hB11 hBu2 hBs hU2
  go_wp2_with fail
  go_ret
  exact ⟨rfl, hB14.out⟩

end Go.Proofs.YtmnmmabhmedioaaDoor
/- Wire: the law WireBack: the walk. (Printed by gen_back.py.) -/
namespace Go.Proofs.YtmnmmabhmedioaaDoor
open Go.RowKit
set_option linter.unusedVariables false
set_option linter.unusedSimpArgs false
set_option maxRecDepth 100000

set_option maxHeartbeats 16000000 in
theorem back_g1 (c1 : Array Value) (m : Msg) (LA : Option Addr) (lc : Nat) (TA : Option Addr) (tc : Nat) (A : Option Addr) (c : Nat) (l : List UInt8) (w : World) (hM : MsgIn w c1 m LA lc TA tc) (ht : Tab w.heap.size w) (hg : ErrT w) (hb : Bs w A l) (hl : l.length ≤ 140737488351232) (hc : l.length ≤ c) (hf : faultM m = none) (f : FD) (hd : decF l = .bad f) : Calls Tryd.prog 9 #[.agg c1, .slice A l.length c] w fun e w' => e = .returned (.bool true) ∧ Below w.heap.size w w' := by
  have hX := heap_alloc_new w (.cells c1 36)
  have hB := boxed w (.cells c1 36)
  have hif1 : (Tryd.prog.info? 36).map (·.size) = some c1.size := by rw [hM.cells.size]; kernel_rfl
  replace hM := Lib.hid hM
  replace ht := Lib.hid ht
  replace hg := Lib.hid hg
  replace hb := Lib.hid hb
  have g1 := err_eq
  have g2 := err_ne
  have g3 := nil_eq
  have g4 := nil_ne
  go_enter Tryd.func9, Tryd.ntmps9
  go_upto_region 1 with fail
  generalize w.alloc (.cells c1 36) = w1 at hX hB ⊢
  have hX1 := Lib.hid (rowAt_all hX)
  replace hB := Lib.hid hB
  go_wp2_with fail
  refine (works_any w1 (ht.out.on hB.out)).mono ?_
  rintro e w2 ⟨rfl, hBn⟩
  have hX2 := Lib.hid (hX1.out.on hBn)
  have hXh := Lib.hid (heap_on hBn hX)
  have hB12 := Lib.hid (later hB.out hBn)
  clear hX hX1 hB hBn
  go_wp2_with (refine wpList_loadM _ rfl _ _ rfl w.heap.size 0 rfl c1 hX2.out _ Tryd.underlying36 rfl hif1 ?_)
  refine (encode_good c1 m LA lc TA tc _ (hM.out.on hB12.out) hf).mono ?_
  rintro e w3 ⟨A1, k1, rfl, hO1, hBn⟩
  have hX3 := Lib.hid (hX2.out.on hBn)
  have hXh3 := Lib.hid (heap_on hBn hXh.out)
  have hB13 := Lib.hid (later hB12.out hBn)
  have hM3 := Lib.hid (hM.out.on hB13.out)
  clear hX2 hXh hB12 hBn
  obtain ⟨hpb, hpL, hdF⟩ := enc_dec (hM.out.ok) hf (hM.out.fit hf)
  have hfl : (frameL (u8 m.kind) (bodyM m)).length = 14 + (bodyM m).length := by simp [frameL, preL_len, sha_length]; omega
  have hfit := hM.out.fit hf
  have hkd := faultM_kind hf
  have hnk : nb ((frameL (u8 m.kind) (bodyM m)).getD 5 0) = m.kind := by
    rw [frame_head]
    show nb (u8 m.kind) = m.kind
    rw [nb_u8 (by omega)]
    omega
  have hsm := usedM_small (n := usedM m) (by
    have h := dec_enc hdF
    exact h.1) (usedM_used m)
  obtain ⟨L, hLd⟩ : ∃ L, 14 + (bodyM m).length = L := ⟨_, rfl⟩
  rw [hLd] at hpL hfl ⊢
  have hbs3 := hO1.bs
  have hcap : L ≤ k1 := by have := hO1.cap; omega
  have hdec := decode_any A1 k1 _ w3 hbs3 (by omega) (by omega)
  rw [hdF, hfl] at hdec
  replace hbs3 := Lib.hid hbs3
  have hpeek : Hid (∀ wx, Below w3.heap.size w3 wx → Calls Tryd.prog 22 #[.slice A1 L k1] wx fun e w' => e = .returned (.tuple #[.int .i64 m.kind, .int .i64 (L : Int), .nilIface]) ∧ Below wx.heap.size wx w') := Lib.hid fun wx hx => by
    have h := peekX_any A1 k1 _ wx (hbs3.out.on hx) (by omega) (by omega)
    rw [hfl] at h
    refine h.mono fun e w' h2 => ?_
    unfold PeekXPost at h2
    rw [hpb] at h2
    simp only at h2
    rw [hnk, hpL] at h2
    exact h2
  have hsmd : Hid (∀ m' : Msg, decide (m' = m') = true) := Lib.hid fun m' => decide_eq_true rfl
  replace hdec := Lib.hid hdec
  replace hsm := Lib.hid hsm
  replace hf := Lib.hid hf
  clear hO1 hbs3 hpb hpL hdF hfl hkd hnk hfit hcap hLd
  go_wp2_with fail
  refine hdec.out.mono ?_
  rintro e w4 ⟨cs, LB, lb, TB, tb, rfl, hMC, hOP, hOB, hpo, hBn⟩
  have hN4 := msgIn_of hsm.out hMC hOP hOB hpo
  have hif2 : (Tryd.prog.info? 36).map (·.size) = some cs.size := by rw [hMC.size]; kernel_rfl
  have hone := hMC.one rfl rfl
  have hcz := hMC.size
  clear hdec hsm hMC hOP hOB hpo
  have hz := Lib.hid (heap_alloc_new w4 (.cells Tryd.zeroCells36 36))
  have hrow : (w4.alloc (.cells Tryd.zeroCells36 36)).setRow w4.heap.size cs = w4.alloc (.cells cs 36) := World.setRow_alloc_new _ _ _ _
  have hBx := boxed w4 (.cells cs 36)
  have hrw := Lib.hid (heap_alloc_new w4 (.cells cs 36))
  have hN5 := Lib.hid (hN4.on hBx)
  have hX5 := Lib.hid (hX3.out.on (later hBn hBx))
  have hXh5 := Lib.hid (heap_on (later hBn hBx) hXh3.out)
  have hB5 := Lib.hid (later hBn hBx)
  clear hN4 hX3 hXh3 hBn
  have hzd : Tryd.zeroCells36.size = cs.size := by rw [hcz]; exact zC_size
  replace hrow := Lib.hid hrow
  clear hBx
  rename_i hK
  refine hK _ _ ?_
  clear hK
  go_upto_region 6 with (refine wpList_storeW _ rfl _ _ _ rfl w4.heap.size cs rfl rfl _ _ hz.out hif2 hzd hone ?_)
  try rw [hrow.out]
  clear hrow hz hzd hone
  have hs4 : w4.heap.size < (w4.alloc (.cells cs 36)).heap.size := by simp
  generalize hY : w4.heap.size = Y at hrw hs4 ⊢
  generalize w4.alloc (.cells cs 36) = w5 at hrw hN5 hX5 hXh5 hB5 hs4 ⊢
  replace hY := Lib.hid hY
  have hY5 := Lib.hid (rowAt_all hrw.out)
  clear hrw
  go_wp2_with fail
  refine (hpeek.out w5 hB5.out).mono ?_
  rintro e w6 ⟨rfl, hBn⟩
  have hY6 := Lib.hid (hY5.out.on hBn)
  have hX6 := Lib.hid (hX5.out.on hBn)
  have hN6 := Lib.hid (hN5.out.on hBn)
  have hB6 := Lib.hid (later hB5.out hBn)
  have x06 := Lib.hid (cell_on hBn (cell_of hXh5.out hM.out.cells.kind))
  have hM6 := Lib.hid (hM3.out.on hB6.out)
  clear hpeek hY5 hX5 hN5 hXh5 hB5 hBn
  have hu1 : Hid (∀ wx, Below w6.heap.size w6 wx → Calls Tryd.prog 20 #[.agg c1] wx (UsedPost wx m)) := Lib.hid fun wx hx => usedw_any c1 m LA lc TA tc wx (hM6.out.on hx) hf.out
  go_upto_region 7 with fail
  refine wp_region_held_drew (S := fun wx => Below w6.heap.size w6 wx) (by kernel_rfl) ((Below.refl _ _).drew) (fun hHeld => ?_)
  refine wpAnyH_ready (rs := [0]) (by kernel_rfl) (by simp) ?_
  refine AllReadyH.cons rfl (fun K hK => ?_) AllReadyH.nil
  go_simp
  refine hK.out _ _ hHeld (fun hHeld => ?_)
  clear hK
  refine wpAnyH_ready (rs := [1]) (by kernel_rfl) (by simp) ?_
  refine AllReadyH.cons rfl (fun K hK => ?_) AllReadyH.nil
  go_simp
  refine hK.out _ _ hHeld (fun hHeld => ?_)
  clear hK
  refine wpAnyH_ready (rs := [2]) (by kernel_rfl) (by simp) ?_
  refine AllReadyH.cons rfl (fun K hK => ?_) AllReadyH.nil
  go_simp
  refine hK.out _ _ hHeld (fun hHeld => ?_)
  clear hK
  refine wpAnyH_ready (rs := [3]) (by kernel_rfl) (by simp) ?_
  refine AllReadyH.cons rfl (fun K hK => ?_) AllReadyH.nil
  go_simp
  refine hK.out _ _ hHeld (fun hHeld => ?_)
  clear hK
  refine wpAnyH_ready (rs := [4]) (by kernel_rfl) (by simp) ?_
  refine AllReadyH.cons rfl (fun K hK => ?_) AllReadyH.nil
  go_simp
  refine hK.out _ _ hHeld (fun hHeld => ?_)
  clear hK
  refine wpAnyH_ready (rs := [5]) (by kernel_rfl) (by simp) ?_
  refine AllReadyH.cons rfl (fun K hK => ?_) AllReadyH.nil
  go_simp
  refine hK.out _ _ hHeld (fun hHeld => ?_)
  clear hK
  refine wpAnyH_ready (rs := [6]) (by kernel_rfl) (by simp) ?_
  refine AllReadyH.cons rfl (fun K hK => ?_) AllReadyH.nil
  go_simp
  refine hK.out _ _ hHeld (fun hHeld => ?_)
  clear hK
  refine wpAnyH_take (i := 7) (v := .agg cs) rfl (by kernel_rfl) (by kernel_rfl) (by kernel_rfl) (fun _ _ _ h => h) ?_ (by assumption) ?_
  · apply yieldsIf_load_mid (b := Y) (o := 0) (cs := cs.toList)
    case ho => exact rfl
    case hx => go_simp
    case hu => exact Tryd.underlying36
    case hd => rfl
    case hw => simp [Region.wanted, yielded, Act.put]
    case hS => exact fun wx hx => (hY6.out.on hx).range
    case hi => simpa using hif2
  refine wpAnyH_take (i := 8) (v := .agg c1) rfl (by kernel_rfl) (by kernel_rfl) (by kernel_rfl) (fun _ _ _ h => h) ?_ (by assumption) ?_
  · apply yieldsIf_load_mid (b := w.heap.size) (o := 0) (cs := c1.toList)
    case ho => exact rfl
    case hx => go_simp
    case hu => exact Tryd.underlying36
    case hd => rfl
    case hw => simp [Region.wanted, yielded, Act.put]
    case hS => exact fun wx hx => (hX6.out.on hx).range
    case hi => simpa using hif1
  refine wpAnyH_ready (rs := [9]) (by kernel_rfl) (by simp) ?_
  refine AllReadyH.cons rfl (fun K hK => ?_) AllReadyH.nil
  go_simp
  go_at_call 20
  refine (hu1.out _ hHeld).mono ?_
  rintro e w7 ⟨cs1, L1, l1c, T1, t1c, rfl, hU1, hBu1, -, -⟩
  try go_simp
  refine hK.out _ _ (later hHeld hBu1) (fun hHeld => ?_)
  clear hK
  refine wpAnyH_ready (rs := [10]) (by kernel_rfl) (by simp) ?_
  refine AllReadyH.cons rfl (fun K hK => ?_) AllReadyH.nil
  go_simp
  go_at_call 13
  refine (sameMessage_any cs cs1 (usedM m) (usedM m) LB lb TB tb L1 l1c T1 t1c _ (hN6.out.on hHeld) hU1).mono ?_
  rintro e w8 ⟨rfl, hBs⟩
  try go_simp
  refine hK.out _ _ (later hHeld hBs) (fun hHeld => ?_)
  clear hK
  refine wpAnyH_ready (rs := [11]) (by kernel_rfl) (by simp) ?_
  refine AllReadyH.cons rfl (fun K hK => ?_) AllReadyH.nil
  go_simp
  refine hK.out _ _ hHeld (fun hHeld => ?_)
  clear hK
  refine wpAnyH_ready (rs := [12]) (by kernel_rfl) (by simp) ?_
  refine AllReadyH.cons rfl (fun K hK => ?_) AllReadyH.nil
  go_simp
  refine hK.out _ _ hHeld (fun hHeld => ?_)
  clear hK
  refine wpAnyH_ready (rs := [13]) (by kernel_rfl) (by simp) ?_
  refine AllReadyH.cons rfl (fun K hK => ?_) AllReadyH.nil
  go_simp
  refine hK.out _ _ hHeld (fun hHeld => ?_)
  clear hK
  refine wpAnyH_take (i := 14) (v := .int .i64 m.kind) rfl (by kernel_rfl) (by kernel_rfl) (by kernel_rfl) (fun _ _ _ h => h) (Or.inl ⟨by simp [Region.wanted, yielded, Act.put], ?_⟩) (by assumption) ?_
  · intro w hSw
    go_simp
  refine wpAnyH_take (i := 15) (v := .pointer (some ⟨w.heap.size, 0, none⟩)) rfl (by kernel_rfl) (by kernel_rfl) (by kernel_rfl) (fun _ _ _ h => h) (Or.inl ⟨by simp [Region.wanted, yielded, Act.put], ?_⟩) (by assumption) ?_
  · intro w hSw
    go_simp
  have x08 := cell_on hHeld x06.out
  refine wpAnyH_ready (rs := [16]) (by kernel_rfl) (by simp) ?_
  refine AllReadyH.cons rfl (fun K hK => ?_) AllReadyH.nil
  go_simp
  refine hK.out _ _ hHeld (fun hHeld => ?_)
  clear hK
  refine wpAnyH_ready (rs := [17]) (by kernel_rfl) (by simp) ?_
  refine AllReadyH.cons rfl (fun K hK => ?_) AllReadyH.nil
  go_simp
  refine hK.out _ _ hHeld (fun hHeld => ?_)
  clear hK
  refine wpAnyH_ready (rs := [18]) (by kernel_rfl) (by simp) ?_
  refine AllReadyH.cons rfl (fun K hK => ?_) AllReadyH.nil
  go_simp
  refine hK.out _ _ hHeld (fun hHeld => ?_)
  clear hK
  refine wpAnyH_ready (rs := [19]) (by kernel_rfl) (by simp) ?_
  refine AllReadyH.cons rfl (fun K hK => ?_) AllReadyH.nil
  go_simp
  refine hK.out _ _ hHeld (fun hHeld => ?_)
  clear hK
  refine wpAnyH_take (i := 20) (v := .int .i64 (L : Int)) rfl (by kernel_rfl) (by kernel_rfl) (by kernel_rfl) (fun _ _ _ h => h) (Or.inl ⟨by simp [Region.wanted, yielded, Act.put], ?_⟩) (by assumption) ?_
  · intro w hSw
    go_simp
  refine wpAnyH_take (i := 21) (v := .slice A1 L k1) rfl (by kernel_rfl) (by kernel_rfl) (by kernel_rfl) (fun _ _ _ h => h) (Or.inl ⟨by simp [Region.wanted, yielded, Act.put], ?_⟩) (by assumption) ?_
  · intro w hSw
    go_simp
  refine wpAnyH_ready (rs := [22]) (by kernel_rfl) (by simp) ?_
  refine AllReadyH.cons rfl (fun K hK => ?_) AllReadyH.nil
  go_simp
  refine hK.out _ _ hHeld (fun hHeld => ?_)
  clear hK
  refine wpAnyH_ready (rs := [23]) (by kernel_rfl) (by simp) ?_
  refine AllReadyH.cons rfl (fun K hK => ?_) AllReadyH.nil
  go_simp
  refine hK.out _ _ hHeld (fun hHeld => ?_)
  clear hK
  refine wpAnyH_ready (rs := [24]) (by kernel_rfl) (by simp) ?_
  refine AllReadyH.cons rfl (fun K hK => ?_) AllReadyH.nil
  go_simp
  refine hK.out _ _ hHeld (fun hHeld => ?_)
  clear hK
  refine wpAnyH_done (by kernel_rfl) ?_ _
  have hB8 := Lib.hid (later (later hB13.out hB6.out) hHeld)
  clear hu1 hHeld x06 x08 hY6 hX6 hN6 hB6 hM6 hBu1 hBs hU1 hM3 hB13 hif2
  have hb8 := hb.out.on hB8.out
  have hdec := decode_any A c l w8 hb8 (by omega) hc
  rw [hd] at hdec
  replace hb8 := Lib.hid hb8
  replace hdec := Lib.hid hdec
  go_wp2_with fail
  refine hdec.out.mono ?_
  rintro e w9 ⟨q, rfl, hF, hBn⟩
  have hnf := decF_named hd
  have hone := zC_one
  have hcz := zC_size
  have hif2 := zC_info
  clear hdec hd
  have hz := Lib.hid (heap_alloc_new w9 (.cells Tryd.zeroCells36 36))
  have hrow : (w9.alloc (.cells Tryd.zeroCells36 36)).setRow w9.heap.size Tryd.zeroCells36 = w9.alloc (.cells Tryd.zeroCells36 36) := World.setRow_alloc_new _ _ _ _
  have hBx := boxed w9 (.cells Tryd.zeroCells36 36)
  have hrw := Lib.hid (heap_alloc_new w9 (.cells Tryd.zeroCells36 36))
  have hF10 := Lib.hid (hF.on hBx)
  have hB10 := Lib.hid (later hB8.out (later hBn hBx))
  clear hF hBn
  have hzd : Tryd.zeroCells36.size = Tryd.zeroCells36.size := rfl
  replace hrow := Lib.hid hrow
  clear hBx
  rename_i hK
  refine hK _ _ ?_
  clear hK
  go_upto_region 12 with (refine wpList_storeW _ rfl _ _ _ rfl w9.heap.size Tryd.zeroCells36 rfl rfl _ _ hz.out hif2 hzd hone ?_)
  try rw [hrow.out]
  clear hrow hz hzd hone
  have hs9 : w9.heap.size < (w9.alloc (.cells Tryd.zeroCells36 36)).heap.size := by simp
  generalize hY2 : w9.heap.size = Y2 at hrw hs9 ⊢
  generalize w9.alloc (.cells Tryd.zeroCells36 36) = w10 at hrw hF10 hB10 hs9 ⊢
  replace hY2 := Lib.hid hY2
  have hr10 := Lib.hid (rowAt_all hrw.out)
  clear hrw
  go_wp2_with fail
  refine (named_true q f w10 hF10.out (hg.out.on hB10.out) hnf.field hnf.at0 hnf.why).mono ?_
  rintro e w11 ⟨rfl, hBn⟩
  have hr11 := Lib.hid (hr10.out.on hBn)
  have hB11 := Lib.hid (later hB10.out hBn)
  clear hr10 hB10 hBn hnf hF10
  rename_i hK
  refine hK _ _ ?_
  clear hK
  refine wpList_step (fun K hK => ?_)
  go_simp
  refine hK _ _ ?_
  clear hK
  apply wpList_loadG (b := Y2) (o := 0) (hc := hr11.out) (hu := Tryd.underlying36) (hi := hif2)
  case ho => exact rfl
  case hx => go_simp
  case hd => rfl
  case hw => simp [Region.wanted, yielded]
  go_wp2_with fail
  refine (sameMessage_any Tryd.zeroCells36 Tryd.zeroCells36 zM zM none 0 none 0 none 0 none 0 w11 (zC_in w11) (zC_in w11)).mono ?_
  rintro e w12 ⟨rfl, hBn⟩
  have hB12 := Lib.hid (later hB11.out hBn)
  clear hr11 hB11 hBn
  go_wp2_with fail
  go_ret
  exact ⟨by simp, hB12.out⟩

set_option maxHeartbeats 16000000 in
theorem back_g2 (c1 : Array Value) (m : Msg) (LA : Option Addr) (lc : Nat) (TA : Option Addr) (tc : Nat) (A : Option Addr) (c : Nat) (l : List UInt8) (w : World) (hM : MsgIn w c1 m LA lc TA tc) (ht : Tab w.heap.size w) (hg : ErrT w) (hb : Bs w A l) (hl : l.length ≤ 140737488351232) (hc : l.length ≤ c) (hf : faultM m = none) (n : Msg) (hd : decF l = .ok n) : Calls Tryd.prog 9 #[.agg c1, .slice A l.length c] w fun e w' => e = .returned (.bool true) ∧ Below w.heap.size w w' := by
  have hX := heap_alloc_new w (.cells c1 36)
  have hB := boxed w (.cells c1 36)
  have hif1 : (Tryd.prog.info? 36).map (·.size) = some c1.size := by rw [hM.cells.size]; kernel_rfl
  replace hM := Lib.hid hM
  replace ht := Lib.hid ht
  replace hg := Lib.hid hg
  replace hb := Lib.hid hb
  have g1 := err_eq
  have g2 := err_ne
  have g3 := nil_eq
  have g4 := nil_ne
  go_enter Tryd.func9, Tryd.ntmps9
  go_upto_region 1 with fail
  generalize w.alloc (.cells c1 36) = w1 at hX hB ⊢
  have hX1 := Lib.hid (rowAt_all hX)
  replace hB := Lib.hid hB
  go_wp2_with fail
  refine (works_any w1 (ht.out.on hB.out)).mono ?_
  rintro e w2 ⟨rfl, hBn⟩
  have hX2 := Lib.hid (hX1.out.on hBn)
  have hXh := Lib.hid (heap_on hBn hX)
  have hB12 := Lib.hid (later hB.out hBn)
  clear hX hX1 hB hBn
  go_wp2_with (refine wpList_loadM _ rfl _ _ rfl w.heap.size 0 rfl c1 hX2.out _ Tryd.underlying36 rfl hif1 ?_)
  refine (encode_good c1 m LA lc TA tc _ (hM.out.on hB12.out) hf).mono ?_
  rintro e w3 ⟨A1, k1, rfl, hO1, hBn⟩
  have hX3 := Lib.hid (hX2.out.on hBn)
  have hXh3 := Lib.hid (heap_on hBn hXh.out)
  have hB13 := Lib.hid (later hB12.out hBn)
  have hM3 := Lib.hid (hM.out.on hB13.out)
  clear hX2 hXh hB12 hBn
  obtain ⟨hpb, hpL, hdF⟩ := enc_dec (hM.out.ok) hf (hM.out.fit hf)
  have hfl : (frameL (u8 m.kind) (bodyM m)).length = 14 + (bodyM m).length := by simp [frameL, preL_len, sha_length]; omega
  have hfit := hM.out.fit hf
  have hkd := faultM_kind hf
  have hnk : nb ((frameL (u8 m.kind) (bodyM m)).getD 5 0) = m.kind := by
    rw [frame_head]
    show nb (u8 m.kind) = m.kind
    rw [nb_u8 (by omega)]
    omega
  have hsm := usedM_small (n := usedM m) (by
    have h := dec_enc hdF
    exact h.1) (usedM_used m)
  obtain ⟨L, hLd⟩ : ∃ L, 14 + (bodyM m).length = L := ⟨_, rfl⟩
  rw [hLd] at hpL hfl ⊢
  have hbs3 := hO1.bs
  have hcap : L ≤ k1 := by have := hO1.cap; omega
  have hdec := decode_any A1 k1 _ w3 hbs3 (by omega) (by omega)
  rw [hdF, hfl] at hdec
  replace hbs3 := Lib.hid hbs3
  have hpeek : Hid (∀ wx, Below w3.heap.size w3 wx → Calls Tryd.prog 22 #[.slice A1 L k1] wx fun e w' => e = .returned (.tuple #[.int .i64 m.kind, .int .i64 (L : Int), .nilIface]) ∧ Below wx.heap.size wx w') := Lib.hid fun wx hx => by
    have h := peekX_any A1 k1 _ wx (hbs3.out.on hx) (by omega) (by omega)
    rw [hfl] at h
    refine h.mono fun e w' h2 => ?_
    unfold PeekXPost at h2
    rw [hpb] at h2
    simp only at h2
    rw [hnk, hpL] at h2
    exact h2
  have hsmd : Hid (∀ m' : Msg, decide (m' = m') = true) := Lib.hid fun m' => decide_eq_true rfl
  replace hdec := Lib.hid hdec
  replace hsm := Lib.hid hsm
  replace hf := Lib.hid hf
  clear hO1 hbs3 hpb hpL hdF hfl hkd hnk hfit hcap hLd
  go_wp2_with fail
  refine hdec.out.mono ?_
  rintro e w4 ⟨cs, LB, lb, TB, tb, rfl, hMC, hOP, hOB, hpo, hBn⟩
  have hN4 := msgIn_of hsm.out hMC hOP hOB hpo
  have hif2 : (Tryd.prog.info? 36).map (·.size) = some cs.size := by rw [hMC.size]; kernel_rfl
  have hone := hMC.one rfl rfl
  have hcz := hMC.size
  clear hdec hsm hMC hOP hOB hpo
  have hz := Lib.hid (heap_alloc_new w4 (.cells Tryd.zeroCells36 36))
  have hrow : (w4.alloc (.cells Tryd.zeroCells36 36)).setRow w4.heap.size cs = w4.alloc (.cells cs 36) := World.setRow_alloc_new _ _ _ _
  have hBx := boxed w4 (.cells cs 36)
  have hrw := Lib.hid (heap_alloc_new w4 (.cells cs 36))
  have hN5 := Lib.hid (hN4.on hBx)
  have hX5 := Lib.hid (hX3.out.on (later hBn hBx))
  have hXh5 := Lib.hid (heap_on (later hBn hBx) hXh3.out)
  have hB5 := Lib.hid (later hBn hBx)
  clear hN4 hX3 hXh3 hBn
  have hzd : Tryd.zeroCells36.size = cs.size := by rw [hcz]; exact zC_size
  replace hrow := Lib.hid hrow
  clear hBx
  rename_i hK
  refine hK _ _ ?_
  clear hK
  go_upto_region 6 with (refine wpList_storeW _ rfl _ _ _ rfl w4.heap.size cs rfl rfl _ _ hz.out hif2 hzd hone ?_)
  try rw [hrow.out]
  clear hrow hz hzd hone
  have hs4 : w4.heap.size < (w4.alloc (.cells cs 36)).heap.size := by simp
  generalize hY : w4.heap.size = Y at hrw hs4 ⊢
  generalize w4.alloc (.cells cs 36) = w5 at hrw hN5 hX5 hXh5 hB5 hs4 ⊢
  replace hY := Lib.hid hY
  have hY5 := Lib.hid (rowAt_all hrw.out)
  clear hrw
  go_wp2_with fail
  refine (hpeek.out w5 hB5.out).mono ?_
  rintro e w6 ⟨rfl, hBn⟩
  have hY6 := Lib.hid (hY5.out.on hBn)
  have hX6 := Lib.hid (hX5.out.on hBn)
  have hN6 := Lib.hid (hN5.out.on hBn)
  have hB6 := Lib.hid (later hB5.out hBn)
  have x06 := Lib.hid (cell_on hBn (cell_of hXh5.out hM.out.cells.kind))
  have hM6 := Lib.hid (hM3.out.on hB6.out)
  clear hpeek hY5 hX5 hN5 hXh5 hB5 hBn
  have hu1 : Hid (∀ wx, Below w6.heap.size w6 wx → Calls Tryd.prog 20 #[.agg c1] wx (UsedPost wx m)) := Lib.hid fun wx hx => usedw_any c1 m LA lc TA tc wx (hM6.out.on hx) hf.out
  go_upto_region 7 with fail
  refine wp_region_held_drew (S := fun wx => Below w6.heap.size w6 wx) (by kernel_rfl) ((Below.refl _ _).drew) (fun hHeld => ?_)
  refine wpAnyH_ready (rs := [0]) (by kernel_rfl) (by simp) ?_
  refine AllReadyH.cons rfl (fun K hK => ?_) AllReadyH.nil
  go_simp
  refine hK.out _ _ hHeld (fun hHeld => ?_)
  clear hK
  refine wpAnyH_ready (rs := [1]) (by kernel_rfl) (by simp) ?_
  refine AllReadyH.cons rfl (fun K hK => ?_) AllReadyH.nil
  go_simp
  refine hK.out _ _ hHeld (fun hHeld => ?_)
  clear hK
  refine wpAnyH_ready (rs := [2]) (by kernel_rfl) (by simp) ?_
  refine AllReadyH.cons rfl (fun K hK => ?_) AllReadyH.nil
  go_simp
  refine hK.out _ _ hHeld (fun hHeld => ?_)
  clear hK
  refine wpAnyH_ready (rs := [3]) (by kernel_rfl) (by simp) ?_
  refine AllReadyH.cons rfl (fun K hK => ?_) AllReadyH.nil
  go_simp
  refine hK.out _ _ hHeld (fun hHeld => ?_)
  clear hK
  refine wpAnyH_ready (rs := [4]) (by kernel_rfl) (by simp) ?_
  refine AllReadyH.cons rfl (fun K hK => ?_) AllReadyH.nil
  go_simp
  refine hK.out _ _ hHeld (fun hHeld => ?_)
  clear hK
  refine wpAnyH_ready (rs := [5]) (by kernel_rfl) (by simp) ?_
  refine AllReadyH.cons rfl (fun K hK => ?_) AllReadyH.nil
  go_simp
  refine hK.out _ _ hHeld (fun hHeld => ?_)
  clear hK
  refine wpAnyH_ready (rs := [6]) (by kernel_rfl) (by simp) ?_
  refine AllReadyH.cons rfl (fun K hK => ?_) AllReadyH.nil
  go_simp
  refine hK.out _ _ hHeld (fun hHeld => ?_)
  clear hK
  refine wpAnyH_take (i := 7) (v := .agg cs) rfl (by kernel_rfl) (by kernel_rfl) (by kernel_rfl) (fun _ _ _ h => h) ?_ (by assumption) ?_
  · apply yieldsIf_load_mid (b := Y) (o := 0) (cs := cs.toList)
    case ho => exact rfl
    case hx => go_simp
    case hu => exact Tryd.underlying36
    case hd => rfl
    case hw => simp [Region.wanted, yielded, Act.put]
    case hS => exact fun wx hx => (hY6.out.on hx).range
    case hi => simpa using hif2
  refine wpAnyH_take (i := 8) (v := .agg c1) rfl (by kernel_rfl) (by kernel_rfl) (by kernel_rfl) (fun _ _ _ h => h) ?_ (by assumption) ?_
  · apply yieldsIf_load_mid (b := w.heap.size) (o := 0) (cs := c1.toList)
    case ho => exact rfl
    case hx => go_simp
    case hu => exact Tryd.underlying36
    case hd => rfl
    case hw => simp [Region.wanted, yielded, Act.put]
    case hS => exact fun wx hx => (hX6.out.on hx).range
    case hi => simpa using hif1
  refine wpAnyH_ready (rs := [9]) (by kernel_rfl) (by simp) ?_
  refine AllReadyH.cons rfl (fun K hK => ?_) AllReadyH.nil
  go_simp
  go_at_call 20
  refine (hu1.out _ hHeld).mono ?_
  rintro e w7 ⟨cs1, L1, l1c, T1, t1c, rfl, hU1, hBu1, -, -⟩
  try go_simp
  refine hK.out _ _ (later hHeld hBu1) (fun hHeld => ?_)
  clear hK
  refine wpAnyH_ready (rs := [10]) (by kernel_rfl) (by simp) ?_
  refine AllReadyH.cons rfl (fun K hK => ?_) AllReadyH.nil
  go_simp
  go_at_call 13
  refine (sameMessage_any cs cs1 (usedM m) (usedM m) LB lb TB tb L1 l1c T1 t1c _ (hN6.out.on hHeld) hU1).mono ?_
  rintro e w8 ⟨rfl, hBs⟩
  try go_simp
  refine hK.out _ _ (later hHeld hBs) (fun hHeld => ?_)
  clear hK
  refine wpAnyH_ready (rs := [11]) (by kernel_rfl) (by simp) ?_
  refine AllReadyH.cons rfl (fun K hK => ?_) AllReadyH.nil
  go_simp
  refine hK.out _ _ hHeld (fun hHeld => ?_)
  clear hK
  refine wpAnyH_ready (rs := [12]) (by kernel_rfl) (by simp) ?_
  refine AllReadyH.cons rfl (fun K hK => ?_) AllReadyH.nil
  go_simp
  refine hK.out _ _ hHeld (fun hHeld => ?_)
  clear hK
  refine wpAnyH_ready (rs := [13]) (by kernel_rfl) (by simp) ?_
  refine AllReadyH.cons rfl (fun K hK => ?_) AllReadyH.nil
  go_simp
  refine hK.out _ _ hHeld (fun hHeld => ?_)
  clear hK
  refine wpAnyH_take (i := 14) (v := .int .i64 m.kind) rfl (by kernel_rfl) (by kernel_rfl) (by kernel_rfl) (fun _ _ _ h => h) (Or.inl ⟨by simp [Region.wanted, yielded, Act.put], ?_⟩) (by assumption) ?_
  · intro w hSw
    go_simp
  refine wpAnyH_take (i := 15) (v := .pointer (some ⟨w.heap.size, 0, none⟩)) rfl (by kernel_rfl) (by kernel_rfl) (by kernel_rfl) (fun _ _ _ h => h) (Or.inl ⟨by simp [Region.wanted, yielded, Act.put], ?_⟩) (by assumption) ?_
  · intro w hSw
    go_simp
  have x08 := cell_on hHeld x06.out
  refine wpAnyH_ready (rs := [16]) (by kernel_rfl) (by simp) ?_
  refine AllReadyH.cons rfl (fun K hK => ?_) AllReadyH.nil
  go_simp
  refine hK.out _ _ hHeld (fun hHeld => ?_)
  clear hK
  refine wpAnyH_ready (rs := [17]) (by kernel_rfl) (by simp) ?_
  refine AllReadyH.cons rfl (fun K hK => ?_) AllReadyH.nil
  go_simp
  refine hK.out _ _ hHeld (fun hHeld => ?_)
  clear hK
  refine wpAnyH_ready (rs := [18]) (by kernel_rfl) (by simp) ?_
  refine AllReadyH.cons rfl (fun K hK => ?_) AllReadyH.nil
  go_simp
  refine hK.out _ _ hHeld (fun hHeld => ?_)
  clear hK
  refine wpAnyH_ready (rs := [19]) (by kernel_rfl) (by simp) ?_
  refine AllReadyH.cons rfl (fun K hK => ?_) AllReadyH.nil
  go_simp
  refine hK.out _ _ hHeld (fun hHeld => ?_)
  clear hK
  refine wpAnyH_take (i := 20) (v := .int .i64 (L : Int)) rfl (by kernel_rfl) (by kernel_rfl) (by kernel_rfl) (fun _ _ _ h => h) (Or.inl ⟨by simp [Region.wanted, yielded, Act.put], ?_⟩) (by assumption) ?_
  · intro w hSw
    go_simp
  refine wpAnyH_take (i := 21) (v := .slice A1 L k1) rfl (by kernel_rfl) (by kernel_rfl) (by kernel_rfl) (fun _ _ _ h => h) (Or.inl ⟨by simp [Region.wanted, yielded, Act.put], ?_⟩) (by assumption) ?_
  · intro w hSw
    go_simp
  refine wpAnyH_ready (rs := [22]) (by kernel_rfl) (by simp) ?_
  refine AllReadyH.cons rfl (fun K hK => ?_) AllReadyH.nil
  go_simp
  refine hK.out _ _ hHeld (fun hHeld => ?_)
  clear hK
  refine wpAnyH_ready (rs := [23]) (by kernel_rfl) (by simp) ?_
  refine AllReadyH.cons rfl (fun K hK => ?_) AllReadyH.nil
  go_simp
  refine hK.out _ _ hHeld (fun hHeld => ?_)
  clear hK
  refine wpAnyH_ready (rs := [24]) (by kernel_rfl) (by simp) ?_
  refine AllReadyH.cons rfl (fun K hK => ?_) AllReadyH.nil
  go_simp
  refine hK.out _ _ hHeld (fun hHeld => ?_)
  clear hK
  refine wpAnyH_done (by kernel_rfl) ?_ _
  have hB8 := Lib.hid (later (later hB13.out hB6.out) hHeld)
  clear hu1 hHeld x06 x08 hY6 hX6 hN6 hB6 hM6 hBu1 hBs hU1 hM3 hB13 hif2
  have hb8 := hb.out.on hB8.out
  have hdec := decode_any A c l w8 hb8 (by omega) hc
  rw [hd] at hdec
  replace hb8 := Lib.hid hb8
  replace hdec := Lib.hid hdec
  go_wp2_with fail
  refine hdec.out.mono ?_
  rintro e w9 ⟨cs2, LC, lc2, TC, tc2, rfl, hMC, hOP, hOB, hpo, hBn⟩
  obtain ⟨hfn, hfr, hun, hon⟩ := dec_enc hd
  have hN9 := msgIn_of (usedM_small hfn hun) hMC hOP hOB hpo
  have hif3 : (Tryd.prog.info? 36).map (·.size) = some cs2.size := by rw [hMC.size]; kernel_rfl
  have hone := hMC.one rfl rfl
  have hcz := hMC.size
  have hlen : 14 + (bodyM n).length = l.length := by rw [← hfr]; simp [frameL, preL_len, sha_length]; omega
  replace hfn := Lib.hid hfn
  replace hfr := Lib.hid hfr
  replace hun := Lib.hid hun
  clear hdec hMC hOP hOB hpo hon hd
  have hz := Lib.hid (heap_alloc_new w9 (.cells Tryd.zeroCells36 36))
  have hrow : (w9.alloc (.cells Tryd.zeroCells36 36)).setRow w9.heap.size cs2 = w9.alloc (.cells cs2 36) := World.setRow_alloc_new _ _ _ _
  have hBx := boxed w9 (.cells cs2 36)
  have hrw := Lib.hid (heap_alloc_new w9 (.cells cs2 36))
  have hN10 := Lib.hid (hN9.on hBx)
  have hB10 := Lib.hid (later hB8.out (later hBn hBx))
  clear hN9 hBn
  have hzd : Tryd.zeroCells36.size = cs2.size := by rw [hcz]; exact zC_size
  replace hrow := Lib.hid hrow
  clear hBx
  rename_i hK
  refine hK _ _ ?_
  clear hK
  go_upto_region 12 with (refine wpList_storeW _ rfl _ _ _ rfl w9.heap.size cs2 rfl rfl _ _ hz.out hif3 hzd hone ?_)
  try rw [hrow.out]
  clear hrow hz hzd hone
  have hs9 : w9.heap.size < (w9.alloc (.cells cs2 36)).heap.size := by simp
  generalize hY2 : w9.heap.size = Y2 at hrw hs9 ⊢
  generalize w9.alloc (.cells cs2 36) = w10 at hrw hN10 hB10 hs9 ⊢
  replace hY2 := Lib.hid hY2
  have hr10 := Lib.hid (rowAt_all hrw.out)
  clear hrw hb8
  replace hlen := Lib.hid hlen
  go_wp2_with (refine wpList_loadM _ rfl _ _ rfl Y2 0 rfl cs2 hr10.out _ Tryd.underlying36 rfl hif3 ?_)
  refine (encode_good cs2 n LC lc2 TC tc2 w10 hN10.out hfn.out).mono ?_
  rintro e w11 ⟨A2, k2, rfl, hO2, hBn⟩
  rw [hlen.out]
  rw [hfr.out] at hO2
  have hb2 := Lib.hid hO2.bs
  have hb11 := Lib.hid (hb.out.on (later hB10.out hBn))
  have hr11 := Lib.hid (hr10.out.on hBn)
  have hN11 := Lib.hid (hN10.out.on hBn)
  have hB11 := Lib.hid (later hB10.out hBn)
  have hsb : Hid (∀ wx, Below w11.heap.size w11 wx → Calls Tryd.prog 19 #[.slice A2 l.length k2, .slice A l.length c] wx fun e w' => e = .returned (.bool true) ∧ ∃ m, w' = wx.drewN m) := Lib.hid fun wx hx => by
    have h := sameBytes_any A2 A k2 c l l wx (hb2.out.on hx) (hb11.out.on hx) hl hl
    rw [decide_eq_true rfl] at h
    exact h
  have hu2 : Hid (∀ wx, Below w11.heap.size w11 wx → Calls Tryd.prog 20 #[.agg cs2] wx fun e w' => ∃ cs LB ld TB td, e = .returned (.agg cs) ∧ MsgIn w' cs n LB ld TB td ∧ Below wx.heap.size wx w') := Lib.hid fun wx hx => (usedw_any cs2 n LC lc2 TC tc2 wx (hN11.out.on hx) hfn.out).mono fun e w' h => by
    unfold UsedPost at h
    rw [hun.out] at h
    obtain ⟨a1, a2, a3, a4, a5, a6, a7, a8, -, -⟩ := h
    exact ⟨a1, a2, a3, a4, a5, a6, a7, a8⟩
  clear hO2 hBn hr10 hN10 hB10 hb2 hb11
  go_upto_region 15 with fail
  refine wp_region_held_drew (S := fun wx => Below w11.heap.size w11 wx) (by kernel_rfl) ((Below.refl _ _).drew) (fun hHeld => ?_)
  refine wpAnyH_ready (rs := [0]) (by kernel_rfl) (by simp) ?_
  refine AllReadyH.cons rfl (fun K hK => ?_) AllReadyH.nil
  go_simp
  refine hK.out _ _ hHeld (fun hHeld => ?_)
  clear hK
  refine wpAnyH_ready (rs := [1]) (by kernel_rfl) (by simp) ?_
  refine AllReadyH.cons rfl (fun K hK => ?_) AllReadyH.nil
  go_simp
  refine hK.out _ _ hHeld (fun hHeld => ?_)
  clear hK
  refine wpAnyH_ready (rs := [2]) (by kernel_rfl) (by simp) ?_
  refine AllReadyH.cons rfl (fun K hK => ?_) AllReadyH.nil
  go_simp
  refine hK.out _ _ hHeld (fun hHeld => ?_)
  clear hK
  refine wpAnyH_take (i := 3) (v := .slice A2 l.length k2) rfl (by kernel_rfl) (by kernel_rfl) (by kernel_rfl) (fun _ _ _ h => h) (Or.inl ⟨by simp [Region.wanted, yielded, Act.put], ?_⟩) (by assumption) ?_
  · intro w hSw
    go_simp
  refine wpAnyH_take (i := 4) (v := .slice A l.length c) rfl (by kernel_rfl) (by kernel_rfl) (by kernel_rfl) (fun _ _ _ h => h) (Or.inl ⟨by simp [Region.wanted, yielded, Act.put], ?_⟩) (by assumption) ?_
  · intro w hSw
    go_simp
  refine wpAnyH_ready (rs := [5]) (by kernel_rfl) (by simp) ?_
  refine AllReadyH.cons rfl (fun K hK => ?_) AllReadyH.nil
  go_simp
  go_at_call 19
  refine (hsb.out _ hHeld).mono ?_
  rintro e w12 ⟨rfl, dm, hwm⟩
  try go_simp
  refine hK.out _ _ (by first | (rw [hwm]; exact below_drewN hHeld dm) | exact below_drewN (Below.refl _ _) _) (fun hHeld => ?_)
  clear hK
  refine wpAnyH_ready (rs := [6]) (by kernel_rfl) (by simp) ?_
  refine AllReadyH.cons rfl (fun K hK => ?_) AllReadyH.nil
  go_simp
  refine hK.out _ _ hHeld (fun hHeld => ?_)
  clear hK
  refine wpAnyH_ready (rs := [7]) (by kernel_rfl) (by simp) ?_
  refine AllReadyH.cons rfl (fun K hK => ?_) AllReadyH.nil
  go_simp
  refine hK.out _ _ hHeld (fun hHeld => ?_)
  clear hK
  refine wpAnyH_take (i := 8) (v := .agg cs2) rfl (by kernel_rfl) (by kernel_rfl) (by kernel_rfl) (fun _ _ _ h => h) ?_ (by assumption) ?_
  · apply yieldsIf_load_mid (b := Y2) (o := 0) (cs := cs2.toList)
    case ho => exact rfl
    case hx => go_simp
    case hu => exact Tryd.underlying36
    case hd => rfl
    case hw => simp [Region.wanted, yielded, Act.put]
    case hS => exact fun wx hx => (hr11.out.on hx).range
    case hi => simpa using hif3
  refine wpAnyH_take (i := 9) (v := .agg cs2) rfl (by kernel_rfl) (by kernel_rfl) (by kernel_rfl) (fun _ _ _ h => h) ?_ (by assumption) ?_
  · apply yieldsIf_load_mid (b := Y2) (o := 0) (cs := cs2.toList)
    case ho => exact rfl
    case hx => go_simp
    case hu => exact Tryd.underlying36
    case hd => rfl
    case hw => simp [Region.wanted, yielded, Act.put]
    case hS => exact fun wx hx => (hr11.out.on hx).range
    case hi => simpa using hif3
  refine wpAnyH_ready (rs := [10]) (by kernel_rfl) (by simp) ?_
  refine AllReadyH.cons rfl (fun K hK => ?_) AllReadyH.nil
  go_simp
  go_at_call 20
  refine (hu2.out _ hHeld).mono ?_
  rintro e w13 ⟨cs3, L3, l3c, T3, t3c, rfl, hU2, hBu2⟩
  try go_simp
  refine hK.out _ _ (later hHeld hBu2) (fun hHeld => ?_)
  clear hK
  refine wpAnyH_ready (rs := [11]) (by kernel_rfl) (by simp) ?_
  refine AllReadyH.cons rfl (fun K hK => ?_) AllReadyH.nil
  go_simp
  go_at_call 13
  refine (sameMessage_any cs2 cs3 n n LC lc2 TC tc2 L3 l3c T3 t3c _ (hN11.out.on hHeld) hU2).mono ?_
  rintro e w14 ⟨rfl, hBs⟩
  try go_simp
  refine hK.out _ _ (later hHeld hBs) (fun hHeld => ?_)
  clear hK
  refine wpAnyH_ready (rs := [12]) (by kernel_rfl) (by simp) ?_
  refine AllReadyH.cons rfl (fun K hK => ?_) AllReadyH.nil
  go_simp
  refine hK.out _ _ hHeld (fun hHeld => ?_)
  clear hK
  refine wpAnyH_ready (rs := [13]) (by kernel_rfl) (by simp) ?_
  refine AllReadyH.cons rfl (fun K hK => ?_) AllReadyH.nil
  go_simp
  refine hK.out _ _ hHeld (fun hHeld => ?_)
  clear hK
  refine wpAnyH_done (by kernel_rfl) ?_ _
  have hB14 := Lib.hid (later hB11.out hHeld)
  clear hsb hu2 hHeld hr11 hN11 hB11 hBu2 hBs hU2
  go_wp2_with fail
  go_ret
  exact ⟨rfl, hB14.out⟩

theorem back_walk (c1 : Array Value) (m : Msg) (LA : Option Addr) (lc : Nat) (TA : Option Addr) (tc : Nat) (A : Option Addr) (c : Nat) (l : List UInt8) (w : World) (hM : MsgIn w c1 m LA lc TA tc) (ht : Tab w.heap.size w) (hg : ErrT w) (hb : Bs w A l) (hl : l.length ≤ 140737488351232) (hc : l.length ≤ c) : Calls Tryd.prog 9 #[.agg c1, .slice A l.length c] w fun e w' => e = .returned (.bool true) ∧ Below w.heap.size w w' := by
  cases hf : faultM m with
  | some f1 =>
    cases hd : decF l with
    | bad f => exact back_b1 c1 m LA lc TA tc A c l w hM ht hg hb hl hc f1 hf f hd
    | ok n => exact back_b2 c1 m LA lc TA tc A c l w hM ht hg hb hl hc f1 hf n hd
  | none =>
    cases hd : decF l with
    | bad f => exact back_g1 c1 m LA lc TA tc A c l w hM ht hg hb hl hc hf f hd
    | ok n => exact back_g2 c1 m LA lc TA tc A c l w hM ht hg hb hl hc hf n hd
end Go.Proofs.YtmnmmabhmedioaaDoor
