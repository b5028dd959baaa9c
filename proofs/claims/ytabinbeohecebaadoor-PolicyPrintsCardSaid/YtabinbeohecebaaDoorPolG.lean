/- ownRule. -/
import Derived.Test.YtabinbeohecebaaDoorPolF
namespace Go.Proofs.YtabinbeohecebaaDoor
open Go.RowKit
set_option linter.unusedVariables false
set_option linter.unusedSimpArgs false
set_option maxRecDepth 100000

theorem info5 : (Tryd.prog.info? 5).map (fun i => (i.zero, i.size, i.bytes)) = some (some (.int .u8 0), 1, 1) := by kernel_rfl

theorem below2 (w : World) (o o' : Obj) : Below w.heap.size w ((w.alloc o).alloc o') := ((Below.refl _ _).alloc (Nat.le_refl _) o).alloc (by simp) o'

set_option maxHeartbeats 1000000 in
theorem ownRule_none (rate window : Int) (w : World) :
    Calls Tryd.prog 28 #[.agg #[.bool true, .slice none 0 0, .int .i64 9, .int .i64 0, .int .i64 rate, .int .i64 window]] w fun e w' =>
      e = .returned (.agg #[.bool true, .slice none 0 0, .int .i64 9, .int .i64 0, .int .i64 rate, .int .i64 window]) ∧ Below w.heap.size w w' := by
  go_enter Tryd.func28, Tryd.ntmps28
  go_wp2
  exact bodyPost_ret (v := .agg #[.bool true, .slice none 0 0, .int .i64 9, .int .i64 0, .int .i64 rate, .int .i64 window]) (by simp [results, Tryd.results28, go_sem]) rfl ⟨rfl, below2 _ _ _⟩

set_option maxHeartbeats 1000000 in
theorem ownRule_some (pb po n pc : Nat) (pfx : List Int) (rate window : Int) (w : World) (hl : pfx.length = n) (hn : 0 < n) (h64 : n ≤ 64) (hc : ∀ i, i < n → w.cell? ⟨pb, po + i, none⟩ = some (.int .u8 (pfx.getD i 0))) :
    Calls Tryd.prog 28 #[.agg #[.bool true, .slice (some ⟨pb, po, none⟩) n pc, .int .i64 9, .int .i64 0, .int .i64 rate, .int .i64 window]] w fun e w' =>
      ∃ g cap, e = .returned (.agg #[.bool true, .slice (some ⟨g, 0, none⟩) n cap, .int .i64 9, .int .i64 0, .int .i64 rate, .int .i64 window]) ∧ w.heap.size ≤ g ∧ Lib.BytesIn w' (some ⟨g, 0, none⟩) n pfx ∧ Below w.heap.size w w' := by
  have hC := Lib.hid hc
  clear hc
  go_enter Tryd.func28, Tryd.ntmps28
  obtain ⟨i0, hi0, hz0, hz1, hz2⟩ := info_parts info5
  go_wp2_with (at_builtin; go_must (refine wpList_append_lies _ rfl _ _ 33 rfl (w.heap.size + 2) 5 i0 (.int .u8 0) 1 1 Tryd.underlying33 hi0 hz0 hz1 hz2 rfl (by decide) (.slice none 0 0) 0 [] rfl (World.ownsRow_nil _ _ _ _) ⟨pb, po, none⟩ n pc (pfx.map (.int .u8)) rfl ?a1 ?a2 one_ints ?a3 ?a4 ?a5 ?a6 _ rfl ?_))
  case a1 => simp; omega
  case a2 => exact news_row fun i hi => cell_on (below2 _ _ _) (hC.out i (by omega))
  case a3 => omega
  case a4 => unfold maxLen; omega
  case a5 => omega
  case a6 => simp
  intro g cap w3 hown hgrow hat hlt
  have hg := (hown.lt g rfl).1
  have hB3 : Below w.heap.size w w3 := (below2 w _ _).grown hgrow (by simp; omega) (fun j hj => by simp [Value.ownBlock] at hj)
  have hb : w3.heap[w.heap.size]? = some (.cells #[.bool true, .slice (some ⟨pb, po, none⟩) n pc, .int .i64 9, .int .i64 0, .int .i64 rate, .int .i64 window] 35 (0, 0)) :=
    (hgrow.block _ (by simp; omega) (by simp [Value.ownBlock])).trans (by rw [Below.heap_alloc _ _ _ (by simp)]; exact heap_alloc_new w _)
  have hr : w3.heap[w.heap.size + 1]? = some (.cells #[.bool false, .slice none 0 0, .int .i64 0, .int .i64 0, .int .i64 0, .int .i64 0] 35 (0, 0)) :=
    (hgrow.block _ (by simp) (by simp [Value.ownBlock])).trans (by have := heap_alloc_new (w.alloc (.cells #[.bool true, .slice (some ⟨pb, po, none⟩) n pc, .int .i64 9, .int .i64 0, .int .i64 rate, .int .i64 window] 35)) (.cells #[.bool false, .slice none 0 0, .int .i64 0, .int .i64 0, .int .i64 0, .int .i64 0] 35); simpa using this)
  have b0 : w3.cell? ⟨w.heap.size, 0, none⟩ = some (.bool true) := cell_of hb rfl
  have b1 : w3.cell? ⟨w.heap.size, 1, none⟩ = some (.slice (some ⟨pb, po, none⟩) n pc) := cell_of hb rfl
  have b2 : w3.cell? ⟨w.heap.size, 2, none⟩ = some (.int .i64 9) := cell_of hb rfl
  have b3 : w3.cell? ⟨w.heap.size, 3, none⟩ = some (.int .i64 0) := cell_of hb rfl
  have b4 : w3.cell? ⟨w.heap.size, 4, none⟩ = some (.int .i64 rate) := cell_of hb rfl
  have b5 : w3.cell? ⟨w.heap.size, 5, none⟩ = some (.int .i64 window) := cell_of hb rfl
  have fb : w3.frozen? ⟨w.heap.size, 1, none⟩ = false := free_of hb
  have c0 : w3.cell? ⟨w.heap.size + 1, 0, none⟩ = some (.bool false) := cell_of hr rfl
  have c1 : w3.cell? ⟨w.heap.size + 1, 1, none⟩ = some (.slice none 0 0) := cell_of hr rfl
  have c2 : w3.cell? ⟨w.heap.size + 1, 2, none⟩ = some (.int .i64 0) := cell_of hr rfl
  have c3 : w3.cell? ⟨w.heap.size + 1, 3, none⟩ = some (.int .i64 0) := cell_of hr rfl
  have c4 : w3.cell? ⟨w.heap.size + 1, 4, none⟩ = some (.int .i64 0) := cell_of hr rfl
  have c5 : w3.cell? ⟨w.heap.size + 1, 5, none⟩ = some (.int .i64 0) := cell_of hr rfl
  have fr : ∀ o, w3.frozen? ⟨w.heap.size + 1, o, none⟩ = false := fun o => free_of hr
  have hK3 := Lib.hid hown
  clear hown hgrow hat hb hr
  go_wp2
  refine bodyPost_ret (v := .agg #[.bool true, .slice (some ⟨g, 0, none⟩) n cap, .int .i64 9, .int .i64 0, .int .i64 rate, .int .i64 window]) (by simp [results, Tryd.results28, go_sem, b0, b1, b2, b3, b4, b5, c0, c1, c2, c3, c4, c5]) rfl ⟨g, cap, by simp, by omega, ?_, ?_⟩
  · have hk : ∀ {W : World} {b o : Nat} (v : Value), b < w.heap.size + 2 → Keep (fun k => k < w.heap.size + 2) W (W.setCell ⟨b, o, none⟩ v) := fun v h => Keep.set _ _ _ v h
    have h0 : ¬ g < w.heap.size + 2 := by omega
    exact (((((((hk _ (by omega)).trans (hk _ (by omega))).trans (hk _ (by omega))).trans (hk _ (by omega))).trans (hk _ (by omega))).trans (hk _ (by omega))).trans (hk _ (by omega))).bytes (fun a ha => by cases ha; exact h0) (owns_bytes hK3.out)
  · exact (((((((hB3.setCell (Nat.le_refl _) _).setCell (Nat.le_succ _) _).setCell (Nat.le_succ _) _).setCell (Nat.le_succ _) _).setCell (Nat.le_succ _) _).setCell (Nat.le_succ _) _).setCell (Nat.le_succ _) _)
end Go.Proofs.YtabinbeohecebaaDoor
