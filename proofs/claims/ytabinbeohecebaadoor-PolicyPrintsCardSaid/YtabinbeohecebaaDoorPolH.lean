/- New. -/
import Derived.Test.YtabinbeohecebaaDoorPolG
import Derived.Deep.DeepCutAuto
namespace Go.Proofs.YtabinbeohecebaaDoor
open Go.RowKit
set_option linter.unusedVariables false
set_option linter.unusedSimpArgs false
set_option maxRecDepth 100000

/-- What New has made when it comes to the rules. -/
structure MadeAt (w : World) (P S C M : Nat) (wx : World) : Prop where
  bP : w.heap.size ≤ P
  bS : w.heap.size ≤ S
  bC : w.heap.size ≤ C
  bM : w.heap.size ≤ M
  PS : P ≠ S
  PC : P ≠ C
  SC : S ≠ C
  hP : wx.heap[P]? = some (.cells #[.bool true, .slice none 0 0, .slice none 0 0, .int .i64 0, .slice (some ⟨S, 0, none⟩) 1 1, .slice (some ⟨C, 0, none⟩) 1 1, .map (some M)] 67 (0, 0))
  hS : wx.heap[S]? = some (.cells #[.int .i64 0] 3 (0, 0))
  hC : wx.heap[C]? = some (.cells #[.slice none 0 0] 63 (0, 0))
  hM : wx.heap[M]? = some (.map #[] 0)
  bel : Below w.heap.size w wx
def Made (w : World) (s9 : Value) (wx : World) : Prop := ∃ P S C M, s9 = .pointer (some ⟨P, 0, none⟩) ∧ MadeAt w P S C M wx

theorem made0 {w w1 : World} (hB1 : Below w.heap.size w w1) : Made w (Value.pointer (some ⟨w1.heap.size + 1 + 1 + 1, 0, none⟩)) (((((w1.alloc (Obj.cells #[Value.int IntKind.i64 0] 3)).alloc (Obj.cells #[Value.slice none 0 0] 63)).alloc (Obj.map #[] 0)).alloc
      (Obj.cells #[Value.bool true, Value.slice none 0 0, Value.slice none 0 0, Value.int IntKind.i64 0, Value.slice (some ⟨w1.heap.size, 0, none⟩) 1 1, Value.slice (some ⟨w1.heap.size + 1, 0, none⟩) 1 1, Value.map (some (w1.heap.size + 1 + 1))] 67)).drew) := by
  have := hB1.size
  refine ⟨_, w1.heap.size, w1.heap.size + 1, w1.heap.size + 1 + 1, rfl, by omega, by omega, by omega, by omega, by omega, by omega, by omega, ?_, ?_, ?_, ?_, ?_⟩
  · show (World.alloc _ _).heap[_]? = _
    rw [heap_alloc?, if_pos (by simp)]
  · show (World.alloc _ _).heap[_]? = _
    rw [Below.heap_alloc _ _ _ (by simp <;> omega), Below.heap_alloc _ _ _ (by simp <;> omega), Below.heap_alloc _ _ _ (by simp <;> omega), heap_alloc?, if_pos (by simp)]
  · show (World.alloc _ _).heap[_]? = _
    rw [Below.heap_alloc _ _ _ (by simp <;> omega), Below.heap_alloc _ _ _ (by simp <;> omega), heap_alloc?, if_pos (by simp)]
  · show (World.alloc _ _).heap[_]? = _
    rw [Below.heap_alloc _ _ _ (by simp <;> omega), heap_alloc?, if_pos (by simp)]
  · exact ((((hB1.alloc hB1.size _).alloc (by simp; omega) _).alloc (by simp; omega) _).alloc (by simp; omega) _).drew

theorem made1 {w w1 : World} (hB1 : Below w.heap.size w w1) : Made w (Value.pointer (some ⟨w1.heap.size + 1 + 1 + 1, 0, none⟩)) (((((w1.alloc (Obj.cells #[Value.int IntKind.i64 0] 3)).alloc (Obj.map #[] 0)).alloc (Obj.cells #[Value.slice none 0 0] 63)).alloc
      (Obj.cells #[Value.bool true, Value.slice none 0 0, Value.slice none 0 0, Value.int IntKind.i64 0, Value.slice (some ⟨w1.heap.size, 0, none⟩) 1 1, Value.slice (some ⟨w1.heap.size + 1 + 1, 0, none⟩) 1 1, Value.map (some (w1.heap.size + 1))] 67)).drew) := by
  have := hB1.size
  refine ⟨_, w1.heap.size, w1.heap.size + 1 + 1, w1.heap.size + 1, rfl, by omega, by omega, by omega, by omega, by omega, by omega, by omega, ?_, ?_, ?_, ?_, ?_⟩
  · show (World.alloc _ _).heap[_]? = _
    rw [heap_alloc?, if_pos (by simp)]
  · show (World.alloc _ _).heap[_]? = _
    rw [Below.heap_alloc _ _ _ (by simp <;> omega), Below.heap_alloc _ _ _ (by simp <;> omega), Below.heap_alloc _ _ _ (by simp <;> omega), heap_alloc?, if_pos (by simp)]
  · show (World.alloc _ _).heap[_]? = _
    rw [Below.heap_alloc _ _ _ (by simp <;> omega), heap_alloc?, if_pos (by simp)]
  · show (World.alloc _ _).heap[_]? = _
    rw [Below.heap_alloc _ _ _ (by simp <;> omega), Below.heap_alloc _ _ _ (by simp <;> omega), heap_alloc?, if_pos (by simp)]
  · exact ((((hB1.alloc hB1.size _).alloc (by simp; omega) _).alloc (by simp; omega) _).alloc (by simp; omega) _).drew

theorem made2 {w w1 : World} (hB1 : Below w.heap.size w w1) : Made w (Value.pointer (some ⟨w1.heap.size + 1 + 1 + 1, 0, none⟩)) (((((w1.alloc (Obj.cells #[Value.slice none 0 0] 63)).alloc (Obj.cells #[Value.int IntKind.i64 0] 3)).alloc (Obj.map #[] 0)).alloc
      (Obj.cells #[Value.bool true, Value.slice none 0 0, Value.slice none 0 0, Value.int IntKind.i64 0, Value.slice (some ⟨w1.heap.size + 1, 0, none⟩) 1 1, Value.slice (some ⟨w1.heap.size, 0, none⟩) 1 1, Value.map (some (w1.heap.size + 1 + 1))] 67)).drew) := by
  have := hB1.size
  refine ⟨_, w1.heap.size + 1, w1.heap.size, w1.heap.size + 1 + 1, rfl, by omega, by omega, by omega, by omega, by omega, by omega, by omega, ?_, ?_, ?_, ?_, ?_⟩
  · show (World.alloc _ _).heap[_]? = _
    rw [heap_alloc?, if_pos (by simp)]
  · show (World.alloc _ _).heap[_]? = _
    rw [Below.heap_alloc _ _ _ (by simp <;> omega), Below.heap_alloc _ _ _ (by simp <;> omega), heap_alloc?, if_pos (by simp)]
  · show (World.alloc _ _).heap[_]? = _
    rw [Below.heap_alloc _ _ _ (by simp <;> omega), Below.heap_alloc _ _ _ (by simp <;> omega), Below.heap_alloc _ _ _ (by simp <;> omega), heap_alloc?, if_pos (by simp)]
  · show (World.alloc _ _).heap[_]? = _
    rw [Below.heap_alloc _ _ _ (by simp <;> omega), heap_alloc?, if_pos (by simp)]
  · exact ((((hB1.alloc hB1.size _).alloc (by simp; omega) _).alloc (by simp; omega) _).alloc (by simp; omega) _).drew

theorem made3 {w w1 : World} (hB1 : Below w.heap.size w w1) : Made w (Value.pointer (some ⟨w1.heap.size + 1 + 1 + 1, 0, none⟩)) (((((w1.alloc (Obj.cells #[Value.slice none 0 0] 63)).alloc (Obj.map #[] 0)).alloc (Obj.cells #[Value.int IntKind.i64 0] 3)).alloc
      (Obj.cells #[Value.bool true, Value.slice none 0 0, Value.slice none 0 0, Value.int IntKind.i64 0, Value.slice (some ⟨w1.heap.size + 1 + 1, 0, none⟩) 1 1, Value.slice (some ⟨w1.heap.size, 0, none⟩) 1 1, Value.map (some (w1.heap.size + 1))] 67)).drew) := by
  have := hB1.size
  refine ⟨_, w1.heap.size + 1 + 1, w1.heap.size, w1.heap.size + 1, rfl, by omega, by omega, by omega, by omega, by omega, by omega, by omega, ?_, ?_, ?_, ?_, ?_⟩
  · show (World.alloc _ _).heap[_]? = _
    rw [heap_alloc?, if_pos (by simp)]
  · show (World.alloc _ _).heap[_]? = _
    rw [Below.heap_alloc _ _ _ (by simp <;> omega), heap_alloc?, if_pos (by simp)]
  · show (World.alloc _ _).heap[_]? = _
    rw [Below.heap_alloc _ _ _ (by simp <;> omega), Below.heap_alloc _ _ _ (by simp <;> omega), Below.heap_alloc _ _ _ (by simp <;> omega), heap_alloc?, if_pos (by simp)]
  · show (World.alloc _ _).heap[_]? = _
    rw [Below.heap_alloc _ _ _ (by simp <;> omega), Below.heap_alloc _ _ _ (by simp <;> omega), heap_alloc?, if_pos (by simp)]
  · exact ((((hB1.alloc hB1.size _).alloc (by simp; omega) _).alloc (by simp; omega) _).alloc (by simp; omega) _).drew

theorem made4 {w w1 : World} (hB1 : Below w.heap.size w w1) : Made w (Value.pointer (some ⟨w1.heap.size + 1 + 1 + 1, 0, none⟩)) (((((w1.alloc (Obj.map #[] 0)).alloc (Obj.cells #[Value.int IntKind.i64 0] 3)).alloc (Obj.cells #[Value.slice none 0 0] 63)).alloc
      (Obj.cells #[Value.bool true, Value.slice none 0 0, Value.slice none 0 0, Value.int IntKind.i64 0, Value.slice (some ⟨w1.heap.size + 1, 0, none⟩) 1 1, Value.slice (some ⟨w1.heap.size + 1 + 1, 0, none⟩) 1 1, Value.map (some (w1.heap.size))] 67)).drew) := by
  have := hB1.size
  refine ⟨_, w1.heap.size + 1, w1.heap.size + 1 + 1, w1.heap.size, rfl, by omega, by omega, by omega, by omega, by omega, by omega, by omega, ?_, ?_, ?_, ?_, ?_⟩
  · show (World.alloc _ _).heap[_]? = _
    rw [heap_alloc?, if_pos (by simp)]
  · show (World.alloc _ _).heap[_]? = _
    rw [Below.heap_alloc _ _ _ (by simp <;> omega), Below.heap_alloc _ _ _ (by simp <;> omega), heap_alloc?, if_pos (by simp)]
  · show (World.alloc _ _).heap[_]? = _
    rw [Below.heap_alloc _ _ _ (by simp <;> omega), heap_alloc?, if_pos (by simp)]
  · show (World.alloc _ _).heap[_]? = _
    rw [Below.heap_alloc _ _ _ (by simp <;> omega), Below.heap_alloc _ _ _ (by simp <;> omega), Below.heap_alloc _ _ _ (by simp <;> omega), heap_alloc?, if_pos (by simp)]
  · exact ((((hB1.alloc hB1.size _).alloc (by simp; omega) _).alloc (by simp; omega) _).alloc (by simp; omega) _).drew

theorem made5 {w w1 : World} (hB1 : Below w.heap.size w w1) : Made w (Value.pointer (some ⟨w1.heap.size + 1 + 1 + 1, 0, none⟩)) (((((w1.alloc (Obj.map #[] 0)).alloc (Obj.cells #[Value.slice none 0 0] 63)).alloc (Obj.cells #[Value.int IntKind.i64 0] 3)).alloc
      (Obj.cells #[Value.bool true, Value.slice none 0 0, Value.slice none 0 0, Value.int IntKind.i64 0, Value.slice (some ⟨w1.heap.size + 1 + 1, 0, none⟩) 1 1, Value.slice (some ⟨w1.heap.size + 1, 0, none⟩) 1 1, Value.map (some (w1.heap.size))] 67)).drew) := by
  have := hB1.size
  refine ⟨_, w1.heap.size + 1 + 1, w1.heap.size + 1, w1.heap.size, rfl, by omega, by omega, by omega, by omega, by omega, by omega, by omega, ?_, ?_, ?_, ?_, ?_⟩
  · show (World.alloc _ _).heap[_]? = _
    rw [heap_alloc?, if_pos (by simp)]
  · show (World.alloc _ _).heap[_]? = _
    rw [Below.heap_alloc _ _ _ (by simp <;> omega), heap_alloc?, if_pos (by simp)]
  · show (World.alloc _ _).heap[_]? = _
    rw [Below.heap_alloc _ _ _ (by simp <;> omega), Below.heap_alloc _ _ _ (by simp <;> omega), heap_alloc?, if_pos (by simp)]
  · show (World.alloc _ _).heap[_]? = _
    rw [Below.heap_alloc _ _ _ (by simp <;> omega), Below.heap_alloc _ _ _ (by simp <;> omega), Below.heap_alloc _ _ _ (by simp <;> omega), heap_alloc?, if_pos (by simp)]
  · exact ((((hB1.alloc hB1.size _).alloc (by simp; omega) _).alloc (by simp; omega) _).alloc (by simp; omega) _).drew

theorem info30 : (Tryd.prog.info? 35).map (fun i => (i.zero, i.size, i.bytes)) = some (some (.agg #[.bool false, .slice none 0 0, .int .i64 0, .int .i64 0, .int .i64 0, .int .i64 0]), 6, 64) := by kernel_rfl

/-- What New answers. -/
def NewPost (w : World) (pfx : List Int) (rate window : Int) (e : Ending) (w' : World) : Prop :=
  ∃ p R S C M cr pc B pp, e = .returned (.tuple #[.pointer (some ⟨p, 0, none⟩), .int .i64 0]) ∧ (∀ g, Full w' p R S C M g cr pc 0 B pp none pfx rate window 0 0 []) ∧ w.heap.size ≤ p ∧ w.heap.size ≤ S ∧ w.heap.size ≤ C ∧ Below w.heap.size w w'

theorem pp_bound {w2 : World} {g n m : Nat} {pfx : List Int} (hn : 0 < n) (h : m ≤ g) (hb : Lib.BytesIn w2 (some ⟨g, 0, none⟩) n pfx) : ∀ a, some (⟨g, 0, none⟩ : Addr) = some a → m ≤ a.block ∧ a.block < w2.heap.size := fun a ha => by
  cases ha
  obtain ⟨b, o, hbo, hcc⟩ := hb hn
  cases hbo
  exact ⟨h, cell_lt (hcc 0 hn)⟩

theorem new_end {w wc w2 w4 : World} {P S C M gg cap pc : Nat} {pp : Option Addr} {pfx : List Int} {rate window : Int} {o : Obj} (hM : MadeAt w P S C M wc) (hW2 : Below wc.heap.size wc w2) (hgrow : (w2.alloc o).grownBy w4 none)
    (hown4 : w4.ownsRow wc.heap.size 35 6 (.slice (some ⟨gg, 0, none⟩) 1 cap) 1 [.bool true, .slice pp pfx.length pc, .int .i64 9, .int .i64 0, .int .i64 rate, .int .i64 window])
    (hb : Lib.BytesIn w2 pp pfx.length pfx) (hpp : ∀ a, pp = some a → wc.heap.size ≤ a.block ∧ a.block < w2.heap.size) :
    NewPost w pfx rate window (.returned (.tuple #[.pointer (some ⟨P, 0, none⟩), .int .i64 0])) (w4.setCell ⟨P, 1, none⟩ (.slice (some ⟨gg, 0, none⟩) 1 cap)) := by
  have k4 : Keep (fun _ => False) wc w4 := (Keep.of_below hW2).trans ((Keep.alloc o).trans (Keep.grown hgrow (fun _ h => by cases h)))
  have k24 : Keep (fun _ => False) w2 w4 := (Keep.alloc o).trans (Keep.grown hgrow (fun _ h => by cases h))
  obtain ⟨v, hv⟩ : ∃ v : Value, v = .slice (some ⟨gg, 0, none⟩) 1 cap := ⟨_, rfl⟩
  rw [← hv] at hown4 ⊢
  have kP : Keep (fun k => k = P) w4 (w4.setCell ⟨P, 1, none⟩ v) := Keep.set _ P 1 v rfl
  have hPs : P < wc.heap.size := heap_lt hM.hP
  have hSs : S < wc.heap.size := heap_lt hM.hS
  have hCs : C < wc.heap.size := heap_lt hM.hC
  have hMs : M < wc.heap.size := heap_lt hM.hM
  have hg := hown4.lt gg (by rw [hv]; rfl)
  have hgP : ¬ gg = P := by omega
  have s4 := k4.size
  have sP : w4.heap.size ≤ (w4.setCell ⟨P, 1, none⟩ v).heap.size := kP.size
  have hP4 := k4.heap id hM.hP
  have hS' := kP.heap (fun e => hM.PS e.symm) (k4.heap id hM.hS)
  have hC' := kP.heap (fun e => hM.PC e.symm) (k4.heap id hM.hC)
  have hMne : ¬ M = P := fun e => by have := hM.hM; rw [e, hM.hP] at this; cases this
  have hMS : M ≠ S := fun e => by have := hM.hM; rw [e, hM.hS] at this; cases this
  have hMC : M ≠ C := fun e => by have := hM.hM; rw [e, hM.hC] at this; cases this
  have hM' := kP.heap hMne (k4.heap id hM.hM)
  have hown' := kP.owns (fun k hk => by rw [hv] at hk; simp [Value.ownBlock] at hk; subst hk; exact hgP) hown4
  have hr := hown'.cells (g := gg) (by rw [hv]; rfl)
  have pcell : ∀ i u, i ≠ 1 → (#[.bool true, .slice none 0 0, .slice none 0 0, .int .i64 0, .slice (some ⟨S, 0, none⟩) 1 1, .slice (some ⟨C, 0, none⟩) 1 1, .map (some M)] : Array Value)[i]? = some u → (w4.setCell ⟨P, 1, none⟩ v).cell? ⟨P, i, none⟩ = some u := fun i u hi hu => by
    rw [World.cell?_setCell_other _ _ _ _ (by simp [hi])]; exact cell_of hP4 hu
  have rc : ∀ i u, ([.bool true, .slice pp pfx.length pc, .int .i64 9, .int .i64 0, .int .i64 rate, .int .i64 window] : List Value)[i]? = some u → (w4.setCell ⟨P, 1, none⟩ v).cell? ⟨gg, i, none⟩ = some u := fun i u hu => by
    have := hr i u hu
    rwa [Go.WideShapes.add_plain, Nat.zero_add] at this
  have p1 : (w4.setCell ⟨P, 1, none⟩ v).cell? ⟨P, 1, none⟩ = some (.slice (some ⟨gg, 0, none⟩) 1 cap) := by
    rw [World.cell?_setCell_same _ _ _ (cell_of (off := 1) hP4 rfl), hv]
  have kw : Below w.heap.size w (w4.setCell ⟨P, 1, none⟩ v) :=
    Keep.below (((Keep.of_below hM.bel).trans (k4.mono fun _ _ h => h.elim)).trans (kP.mono fun k _ h => by show w.heap.size ≤ k; rw [h]; exact hM.bP)) (Nat.le_refl _)
  refine ⟨P, gg, S, C, M, cap, pc, (w4.setCell ⟨P, 1, none⟩ v).heap.size, pp, rfl, fun g => ?_, hM.bP, hM.bS, hM.bC, kw⟩
  have hpp' : ∀ a, pp = some a → ¬ a.block = P := fun a ha e => by have := hpp a ha; omega
  refine ⟨⟨pcell 0 _ (by omega) rfl, p1, pcell 3 _ (by omega) rfl, pcell 5 _ (by omega) rfl, pcell 6 _ (by omega) rfl, rc 0 _ rfl, rc 1 _ rfl, rc 2 _ rfl, rc 3 _ rfl, rc 4 _ rfl, rc 5 _ rfl, ?_, cell_of (off := 0) hC' rfl, hM', by simp, fun h => absurd h (by simp), by omega, by omega, fun j hj => absurd hj (by simp)⟩,
    pcell 4 _ (by omega) rfl, cell_of (off := 0) hS' rfl, ?_, free_of hS', free_of hC', World.ownsRow_nil _ _ _ _, Nat.le_refl _, by omega, by omega, by omega, by omega, by omega, fun a ha => ?_, hM.PS, hM.PC, by omega, by omega, by omega, hM.SC, hMS, hMC, hMne, fun a ha => ?_, by omega, by omega⟩
  · exact (Keep.bytes (D := fun k => k = P) ((k24.mono fun _ _ h => h.elim).trans kP) hpp' hb)
  · rw [World.frozen?_setCell]; exact free_of hP4
  · have h1 := hpp a ha; have h2 := k24.size; omega
  · have := hpp a ha; refine ⟨?_, ?_, ?_⟩ <;> omega

set_option maxRecDepth 100000 in
set_option maxHeartbeats 4000000 in
theorem new_none (rb cr : Nat) (rate window : Int) (w : World) (r1 : 1 ≤ rate) (r2 : rate ≤ 4096) (w1 : 1 ≤ window) (w2 : window ≤ 2000000000)
    (h0 : w.cell? ⟨rb, 0, none⟩ = some (.bool true)) (h1 : w.cell? ⟨rb, 1, none⟩ = some (.slice none 0 0)) (h2 : w.cell? ⟨rb, 2, none⟩ = some (.int .i64 9)) (h3 : w.cell? ⟨rb, 3, none⟩ = some (.int .i64 0))
    (h4 : w.cell? ⟨rb, 4, none⟩ = some (.int .i64 rate)) (h5 : w.cell? ⟨rb, 5, none⟩ = some (.int .i64 window)) :
    Calls Tryd.prog 18 #[.slice (some ⟨rb, 0, none⟩) 1 cr, .slice none 0 0] w (NewPost w [] rate window) := by
  have hmm := @run_makeMap Tryd.prog
  have hk1 : ∀ w, (Instr.makeSlice 63 (.int .i64 1) (.int .i64 1)).run Tryd.prog w = .ok (.slice (some ⟨w.heap.size, 0, none⟩) 1 1) (w.alloc (.cells #[.int .i64 0] 3)) := fun _ => by kernel_rfl
  have hk2 : ∀ w, (Instr.makeSlice 64 (.int .i64 1) (.int .i64 1)).run Tryd.prog w = .ok (.slice (some ⟨w.heap.size, 0, none⟩) 1 1) (w.alloc (.cells #[.slice none 0 0] 63)) := fun _ => by kernel_rfl
  go_enter Tryd.func18, Tryd.ntmps18
  go_wp2_with (go_at_call 11; refine (mayRules_one none 0 0 rb cr rate window _ (by omega) r1 r2 w1 w2 h0 h1 h2 h3 h4 h5).mono ?_; rintro e w1 ⟨rfl, hB1⟩)
  refine wp_loop_rounds 1 ?_
  rw [rounds_succ]
  go_upto_region 18 with fail
  go_cut [9] (fun s9 wx => Made w s9 wx)
  case first =>
    go_region
    all_goals (go_wp2_with fail; go_meet)
    all_goals clear hmm hk1 hk2
    all_goals first | exact made0 hB1 | exact made1 hB1 | exact made2 hB1 | exact made3 hB1 | exact made4 hB1 | exact made5 hB1
  case rest =>
    obtain ⟨P, S, C, M, rfl, hM⟩ := hcut
    have q0 := cell_on hM.bel h0
    have q1 := cell_on hM.bel h1
    have q2 := cell_on hM.bel h2
    have q3 := cell_on hM.bel h3
    have q4 := cell_on hM.bel h4
    have q5 := cell_on hM.bel h5
    have hP1 : wc.cell? ⟨P, 1, none⟩ = some (.slice none 0 0) := cell_of hM.hP rfl
    have hf1 : wc.frozen? ⟨P, 1, none⟩ = false := free_of hM.hP
    have lP : P < wc.heap.size := heap_lt hM.hP
    obtain ⟨i0, hi0, hz0, hz1, hz2⟩ := info_parts info30
    clear h0 h1 h2 h3 h4 h5 hmm hk1 hk2
    go_wp2
    refine wp_loop_rounds 2 ?_
    rw [rounds_succ]
    go_wp2
    go_region_law (first
      | (refine step_append_lies _ (by rfl) _ _ _ (by rfl) wc.heap.size 35 i0 _ 6 64 Tryd.underlying22 hi0 hz0 hz1 hz2 (by rfl) (by omega) (.slice none 0 0) 0 [] (by rfl) (World.ownsRow_nil _ _ _ _)
            ⟨w2.heap.size, 0, none⟩ 1 1 [.bool true, .slice none 0 0, .int .i64 9, .int .i64 0, .int .i64 rate, .int .i64 window] (by rfl) (by rfl)
            (World.news_of_block (cs := #[.bool true, .slice none 0 0, .int .i64 9, .int .i64 0, .int .i64 rate, .int .i64 window]) (t := 35) (fr := (0, 0)) (heap_alloc_new w2 _)) (by simp [Value.oneCell']) (by omega) (by unfold maxLen; omega) (by omega) (by have := hW2.size; simp; omega) (w2.heap.size + 1) (by simp) ?_
         intro gg cap w4 hown4 hgrow hat hlt4
         have hP4 := (hgrow.cell_far ⟨P, 1, none⟩ (by have := hW2.size; simp; omega) (by simp [Value.ownBlock])).trans (cell_on ((Below.refl w2.heap.size w2).alloc (Nat.le_refl _) _) hP2)
         have hf4 := (hgrow.frozen_far ⟨P, 1, none⟩ (by have := hW2.size; simp; omega) (by simp [Value.ownBlock])).trans (free_on ((Below.refl w2.heap.size w2).alloc (Nat.le_refl _) _) (cell_lt hP2) hf2)
         have lP4 : P < w4.heap.size := cell_lt hP4)
      | (go_simp; go_at_call 28; refine (ownRule_none rate window _).mono ?_; rintro e w2 ⟨rfl, hB2⟩
         have hW2 : Below wc.heap.size wc w2 := later (((Below.refl _ _).alloc (Nat.le_refl _) _).drew) hB2
         have hP2 : w2.cell? ⟨P, 1, none⟩ = some (.slice none 0 0) := cell_on hW2 hP1
         have hf2 : w2.frozen? ⟨P, 1, none⟩ = false := free_on hW2 lP hf1
         have lP2 : P < w2.heap.size := cell_lt hP2))
    all_goals go_wp2
    all_goals rw [rounds_succ]
    all_goals go_wp2
    all_goals go_ret2
    all_goals exact new_end (pc := 0) (pp := none) (pfx := []) hM hW2 hgrow hown4 (Lib.BytesIn.nil _ _ _) (fun _ h => by cases h)
set_option maxRecDepth 100000 in
set_option maxHeartbeats 4000000 in
theorem new_some (rb cr pb po pc0 : Nat) (pfx : List Int) (rate window : Int) (w : World) (hn : 0 < pfx.length) (h64 : pfx.length ≤ 64) (hc : ∀ i, i < pfx.length → w.cell? ⟨pb, po + i, none⟩ = some (.int .u8 (pfx.getD i 0))) (r1 : 1 ≤ rate) (r2 : rate ≤ 4096) (w1 : 1 ≤ window) (w2 : window ≤ 2000000000)
    (h0 : w.cell? ⟨rb, 0, none⟩ = some (.bool true)) (h1 : w.cell? ⟨rb, 1, none⟩ = some (.slice (some ⟨pb, po, none⟩) pfx.length pc0)) (h2 : w.cell? ⟨rb, 2, none⟩ = some (.int .i64 9)) (h3 : w.cell? ⟨rb, 3, none⟩ = some (.int .i64 0))
    (h4 : w.cell? ⟨rb, 4, none⟩ = some (.int .i64 rate)) (h5 : w.cell? ⟨rb, 5, none⟩ = some (.int .i64 window)) :
    Calls Tryd.prog 18 #[.slice (some ⟨rb, 0, none⟩) 1 cr, .slice none 0 0] w (NewPost w pfx rate window) := by
  have hC := Lib.hid hc
  clear hc
  have hmm := @run_makeMap Tryd.prog
  have hk1 : ∀ w, (Instr.makeSlice 63 (.int .i64 1) (.int .i64 1)).run Tryd.prog w = .ok (.slice (some ⟨w.heap.size, 0, none⟩) 1 1) (w.alloc (.cells #[.int .i64 0] 3)) := fun _ => by kernel_rfl
  have hk2 : ∀ w, (Instr.makeSlice 64 (.int .i64 1) (.int .i64 1)).run Tryd.prog w = .ok (.slice (some ⟨w.heap.size, 0, none⟩) 1 1) (w.alloc (.cells #[.slice none 0 0] 63)) := fun _ => by kernel_rfl
  go_enter Tryd.func18, Tryd.ntmps18
  go_wp2_with (go_at_call 11; refine (mayRules_one (some ⟨pb, po, none⟩) pfx.length pc0 rb cr rate window _ h64 r1 r2 w1 w2 h0 h1 h2 h3 h4 h5).mono ?_; rintro e w1 ⟨rfl, hB1⟩)
  refine wp_loop_rounds 1 ?_
  rw [rounds_succ]
  go_upto_region 18 with fail
  go_cut [9] (fun s9 wx => Made w s9 wx)
  case first =>
    go_region
    all_goals (go_wp2_with fail; go_meet)
    all_goals clear hmm hk1 hk2
    all_goals first | exact made0 hB1 | exact made1 hB1 | exact made2 hB1 | exact made3 hB1 | exact made4 hB1 | exact made5 hB1
  case rest =>
    obtain ⟨P, S, C, M, rfl, hM⟩ := hcut
    have q0 := cell_on hM.bel h0
    have q1 := cell_on hM.bel h1
    have q2 := cell_on hM.bel h2
    have q3 := cell_on hM.bel h3
    have q4 := cell_on hM.bel h4
    have q5 := cell_on hM.bel h5
    have hP1 : wc.cell? ⟨P, 1, none⟩ = some (.slice none 0 0) := cell_of hM.hP rfl
    have hf1 : wc.frozen? ⟨P, 1, none⟩ = false := free_of hM.hP
    have lP : P < wc.heap.size := heap_lt hM.hP
    obtain ⟨i0, hi0, hz0, hz1, hz2⟩ := info_parts info30
    clear h0 h1 h2 h3 h4 h5 hmm hk1 hk2
    go_wp2
    refine wp_loop_rounds 2 ?_
    rw [rounds_succ]
    go_wp2
    go_region_law (first
      | (refine step_append_lies _ (by rfl) _ _ _ (by rfl) wc.heap.size 35 i0 _ 6 64 Tryd.underlying22 hi0 hz0 hz1 hz2 (by rfl) (by omega) (.slice none 0 0) 0 [] (by rfl) (World.ownsRow_nil _ _ _ _)
            ⟨w2.heap.size, 0, none⟩ 1 1 [.bool true, .slice (some ⟨g0, 0, none⟩) pfx.length cap0, .int .i64 9, .int .i64 0, .int .i64 rate, .int .i64 window] (by rfl) (by rfl)
            (World.news_of_block (cs := #[.bool true, .slice (some ⟨g0, 0, none⟩) pfx.length cap0, .int .i64 9, .int .i64 0, .int .i64 rate, .int .i64 window]) (t := 35) (fr := (0, 0)) (heap_alloc_new w2 _)) (by simp [Value.oneCell']) (by omega) (by unfold maxLen; omega) (by omega) (by have := hW2.size; simp; omega) (w2.heap.size + 1) (by simp) ?_
         intro gg cap w4 hown4 hgrow hat hlt4
         have hP4 := (hgrow.cell_far ⟨P, 1, none⟩ (by have := hW2.size; simp; omega) (by simp [Value.ownBlock])).trans (cell_on ((Below.refl w2.heap.size w2).alloc (Nat.le_refl _) _) hP2)
         have hf4 := (hgrow.frozen_far ⟨P, 1, none⟩ (by have := hW2.size; simp; omega) (by simp [Value.ownBlock])).trans (free_on ((Below.refl w2.heap.size w2).alloc (Nat.le_refl _) _) (cell_lt hP2) hf2)
         have lP4 : P < w4.heap.size := cell_lt hP4)
      | (go_simp; go_at_call 28; refine (ownRule_some pb po pfx.length pc0 pfx rate window _ rfl hn h64 (fun i hi => cell_on (((Below.refl _ _).alloc (Nat.le_refl _) _).drew) (cell_on hM.bel (hC.out i hi)))).mono ?_; rintro e w2 ⟨g0, cap0, rfl, hg0, hby0, hB2⟩
         have hW2 : Below wc.heap.size wc w2 := later (((Below.refl _ _).alloc (Nat.le_refl _) _).drew) hB2
         have hP2 : w2.cell? ⟨P, 1, none⟩ = some (.slice none 0 0) := cell_on hW2 hP1
         have hf2 : w2.frozen? ⟨P, 1, none⟩ = false := free_on hW2 lP hf1
         have lP2 : P < w2.heap.size := cell_lt hP2))
    all_goals go_wp2
    all_goals rw [rounds_succ]
    all_goals go_wp2
    all_goals go_ret2
    all_goals exact new_end (pc := cap0) (pp := some ⟨g0, 0, none⟩) (pfx := pfx) hM hW2 hgrow hown4 hby0 (pp_bound hn (Nat.le_trans (((Below.refl wc.heap.size wc).alloc (Nat.le_refl _) _).drew).size hg0) hby0)
end Go.Proofs.YtabinbeohecebaaDoor
