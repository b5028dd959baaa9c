/- Wire: the law WireNil, walked. -/
import Derived.Test.YtmnmmabhmedioaaDoorWrO
namespace Go.Proofs.YtmnmmabhmedioaaDoor
open Go.RowKit
set_option linter.unusedVariables false
set_option linter.unusedSimpArgs false
set_option maxRecDepth 100000

theorem keepN {w W W' : World} {M Z d e : Nat} (h : Below W.heap.size W W') (hS : W.cell? ⟨M, 0, none⟩ = some (.string ⟨#[115, 116, 114, 101, 97, 109]⟩) ∧ W.cell? ⟨M, 1, none⟩ = some (.int .i64 0) ∧ W.cell? ⟨M, 2, none⟩ = some (.int .i64 2) ∧ Hid (FaultAt W d ⟨kStream, 0, 2⟩) ∧ Hid (FaultAt W e ⟨kStream, 0, 2⟩) ∧ Hid (Unmade W (some ⟨Z, 0, none⟩)) ∧ Hid (Below w.heap.size w W)) : W'.cell? ⟨M, 0, none⟩ = some (.string ⟨#[115, 116, 114, 101, 97, 109]⟩) ∧ W'.cell? ⟨M, 1, none⟩ = some (.int .i64 0) ∧ W'.cell? ⟨M, 2, none⟩ = some (.int .i64 2) ∧ Hid (FaultAt W' d ⟨kStream, 0, 2⟩) ∧ Hid (FaultAt W' e ⟨kStream, 0, 2⟩) ∧ Hid (Unmade W' (some ⟨Z, 0, none⟩)) ∧ Hid (Below w.heap.size w W') :=
  ⟨cell_on h hS.1, cell_on h hS.2.1, cell_on h hS.2.2.1, Lib.hid (hS.2.2.2.1.out.on h), Lib.hid (hS.2.2.2.2.1.out.on h), Lib.hid (hS.2.2.2.2.2.1.out.on h), Lib.hid (later hS.2.2.2.2.2.2.out h)⟩
theorem worksH {w W : World} (ht : Tab w.heap.size w) (hb : Hid (Below w.heap.size w W)) : Calls Tryd.prog 15 #[] W fun e w' => e = .returned (.bool true) ∧ Below W.heap.size W w' := works_any W (ht.on hb.out)
theorem faultH {w W : World} {q : Nat} (ht : Tab w.heap.size w) (hf : Hid (FaultAt W q ⟨kStream, 0, 2⟩)) (hb : Hid (Below w.heap.size w W)) : Calls Tryd.prog 14 #[errOf q, .agg #[.string ⟨#[115, 116, 114, 101, 97, 109]⟩, .int .i64 0, .int .i64 2]] W fun e w' => e = .returned (.bool true) ∧ Below W.heap.size W w' :=
  fault_true q ⟨kStream, 0, 2⟩ W hf.out (by simp [kStream]) (ht.on hb.out) (by decide) (by decide) (by decide) (by decide) (by decide)
theorem endH {W : World} {z : Nat} (h : Hid (Unmade W (some ⟨z, 0, none⟩))) : Calls Tryd.prog 28 #[.pointer (some ⟨z, 0, none⟩)] W fun e w' => ∃ q, e = .returned (errOf q) ∧ Hid (FaultAt w' q ⟨kStream, 0, 2⟩) ∧ Below W.heap.size W w' :=
  (end_any _ W h.out).mono fun e w' ⟨v, h1, q, h2, h3, _, h5⟩ => ⟨q, by rw [h1, h2], Lib.hid h3, h5⟩
theorem endN (W : World) : Calls Tryd.prog 28 #[.pointer none] W fun e w' => ∃ q, e = .returned (errOf q) ∧ Hid (FaultAt w' q ⟨kStream, 0, 2⟩) ∧ Below W.heap.size W w' :=
  (end_any none W (.inl rfl)).mono fun e w' ⟨v, h1, q, h2, h3, _, h5⟩ => ⟨q, by rw [h1, h2], Lib.hid h3, h5⟩
theorem leftH {W : World} {z : Nat} (h : Hid (Unmade W (some ⟨z, 0, none⟩))) : Calls Tryd.prog 29 #[.pointer (some ⟨z, 0, none⟩)] W fun e w' => e = .returned (.int .i64 0) ∧ Below W.heap.size W w' := left_any _ W h.out
theorem leftN (W : World) : Calls Tryd.prog 29 #[.pointer none] W fun e w' => e = .returned (.int .i64 0) ∧ Below W.heap.size W w' := left_any none W (.inl rfl)

set_option maxHeartbeats 16000000 in
theorem wireNil_any (w : World) (ht : Tab w.heap.size w) : Calls Tryd.prog 7 #[] w fun e w' => e = .returned (.bool true) ∧ Below w.heap.size w w' := by
  replace ht := Lib.hid ht
  have kc := fun (w : World) (C : Array Value) (n c : Nat) => Lib.run_convert_bytes_const (P := Tryd.prog) w 22 5 C n c Tryd.underlying22 Tryd.underlying5
  go_enter Tryd.func7, Tryd.ntmps7
  go_upto_region 5 with fail
  have hZ : Unmade ((w.alloc (.cells #[.bool false, .slice none 0 0, .int .i64 0, .pointer none] 82)).alloc (.cells #[.string ⟨#[115, 116, 114, 101, 97, 109]⟩, .int .i64 0, .int .i64 2] 42)) (some ⟨w.heap.size, 0, none⟩) :=
    .inr ⟨_, rfl, cell_on (boxed _ _) (cell_of (heap_alloc_new w _) rfl)⟩
  have hM := heap_alloc_new (w.alloc (.cells #[.bool false, .slice none 0 0, .int .i64 0, .pointer none] 82)) (.cells #[.string ⟨#[115, 116, 114, 101, 97, 109]⟩, .int .i64 0, .int .i64 2] 42)
  rw [show (w.alloc (.cells #[.bool false, .slice none 0 0, .int .i64 0, .pointer none] 82)).heap.size = w.heap.size + 1 from by simp] at hM
  have hB : Below w.heap.size w ((w.alloc (.cells #[.bool false, .slice none 0 0, .int .i64 0, .pointer none] 82)).alloc (.cells #[.string ⟨#[115, 116, 114, 101, 97, 109]⟩, .int .i64 0, .int .i64 2] 42)) := later (boxed _ _) (boxed _ _)
  generalize (w.alloc (.cells #[.bool false, .slice none 0 0, .int .i64 0, .pointer none] 82)).alloc (.cells #[.string ⟨#[115, 116, 114, 101, 97, 109]⟩, .int .i64 0, .int .i64 2] 42) = w2 at hZ hM hB ⊢
  replace hZ := Lib.hid hZ
  replace hM := Lib.hid hM
  replace hB := Lib.hid hB
  go_wp2_with fail
  refine (feed_any none _ _ (.inl rfl)).mono ?_
  rintro e w3 ⟨v, rfl, qd, rfl, hd, -, hB3⟩
  have hB23 : Below w2.heap.size w2 w3 := (boxed w2 _).trans (hB3.mono (by simp))
  have hZ3 := Lib.hid (hZ.out.on hB23)
  have hM3 := Lib.hid (heap_on hB23 hM.out)
  have hB03 := Lib.hid (later hB.out hB23)
  replace hd := Lib.hid hd
  clear hZ hM hB hB3 hB23 kc
  go_wp2_with fail
  refine (feed_any (some ⟨w.heap.size, 0, none⟩) _ _ hZ3.out).mono ?_
  rintro e w4 ⟨v, rfl, qe, rfl, he, -, hB4⟩
  have hZ4 := hZ3.out.on hB4
  have hM4 := heap_on hB4 hM3.out
  have m0 : w4.cell? ⟨w.heap.size + 1, 0, none⟩ = some (.string ⟨#[115, 116, 114, 101, 97, 109]⟩) := cell_of hM4 rfl
  have m1 : w4.cell? ⟨w.heap.size + 1, 1, none⟩ = some (.int .i64 0) := cell_of hM4 rfl
  have m2 : w4.cell? ⟨w.heap.size + 1, 2, none⟩ = some (.int .i64 2) := cell_of hM4 rfl
  have hd4 := hd.out.on hB4
  have hB04 := later hB03.out hB4
  clear hZ3 hM3 hB03 hd hB4 hM4
  go_upto_region 7 with fail
  replace hd4 := Lib.hid hd4
  replace he := Lib.hid he
  replace hZ4 := Lib.hid hZ4
  have hBd : Hid (Below w.heap.size w w4.drew) := Lib.hid hB04.drew
  clear hB04
  go_region_held3 (fun w' => w'.cell? ⟨w.heap.size + 1, 0, none⟩ = some (.string ⟨#[115, 116, 114, 101, 97, 109]⟩) ∧ w'.cell? ⟨w.heap.size + 1, 1, none⟩ = some (.int .i64 0) ∧ w'.cell? ⟨w.heap.size + 1, 2, none⟩ = some (.int .i64 2) ∧ Hid (FaultAt w' qd ⟨kStream, 0, 2⟩) ∧ Hid (FaultAt w' qe ⟨kStream, 0, 2⟩) ∧ Hid (Unmade w' (some ⟨w.heap.size, 0, none⟩)) ∧ Hid (Below w.heap.size w w'))
    (first | ((try dsimp only); exact ⟨m0, m1, m2, hd4, he, hZ4, hBd⟩) | (go_split_ands; exact keepN (by assumption) ⟨by assumption, by assumption, by assumption, by assumption, by assumption, by assumption, by assumption⟩))
    (first
      | (go_at_call 15; go_split_ands; refine (worksH ht.out ?_).mono ?_; (assumption); rintro e w' ⟨rfl, hb'⟩)
      | (go_at_call 26; refine (ferror_nil _).mono ?_; rintro e w' ⟨rfl, hb'⟩)
      | (go_at_call 27; refine (funwrap_nil _).mono ?_; rintro e w' ⟨rfl, hb'⟩)
      | (go_at_call 14; go_split_ands; refine (faultH ht.out ?_ ?_).mono ?_; (assumption); (assumption); rintro e w' ⟨rfl, hb'⟩)
      | (go_at_call 28; with_reducible refine (endN _).mono ?_; rintro e w' ⟨q, rfl, hq, hb'⟩)
      | (go_at_call 29; with_reducible refine (leftN _).mono ?_; rintro e w' ⟨rfl, hb'⟩)
      | (go_at_call 28; go_split_ands; with_reducible refine (endH ?_).mono ?_; (assumption); rintro e w' ⟨q, rfl, hq, hb'⟩)
      | (go_at_call 29; go_split_ands; with_reducible refine (leftH ?_).mono ?_; (assumption); rintro e w' ⟨rfl, hb'⟩))
  rename_i hH
  have hBl := hH.2.2.2.2.2.2.out
  clear hH
  go_wp2_with fail
  go_ret
  exact ⟨rfl, hBl⟩
end Go.Proofs.YtmnmmabhmedioaaDoor
