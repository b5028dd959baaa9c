/- Which, asked, Ask of a policy with one rule. -/
import Derived.Test.YtabinbeohecebaaDoorPolB
namespace Go.Proofs.YtabinbeohecebaaDoor
open Go.RowKit
set_option linter.unusedVariables false
set_option linter.unusedSimpArgs false
set_option maxRecDepth 100000

/-- What the calls read of a policy with one rule. -/
structure Reads (w : World) (p R C M g cr pc xc : Nat) (pp xa : Option Addr) (pfx : List Int) (rate window now : Int) (rec : List Int) : Prop where
  p0 : w.cell? ⟨p, 0, none⟩ = some (.bool true)
  p1 : w.cell? ⟨p, 1, none⟩ = some (.slice (some ⟨R, 0, none⟩) 1 cr)
  p3 : w.cell? ⟨p, 3, none⟩ = some (.int .i64 now)
  p5 : w.cell? ⟨p, 5, none⟩ = some (.slice (some ⟨C, 0, none⟩) 1 1)
  p6 : w.cell? ⟨p, 6, none⟩ = some (.map (some M))
  r0 : w.cell? ⟨R, 0, none⟩ = some (.bool true)
  r1 : w.cell? ⟨R, 1, none⟩ = some (.slice pp pfx.length pc)
  r2 : w.cell? ⟨R, 2, none⟩ = some (.int .i64 9)
  r3 : w.cell? ⟨R, 3, none⟩ = some (.int .i64 0)
  r4 : w.cell? ⟨R, 4, none⟩ = some (.int .i64 rate)
  r5 : w.cell? ⟨R, 5, none⟩ = some (.int .i64 window)
  hpfx : Lib.BytesIn w pp pfx.length pfx
  c0 : w.cell? ⟨C, 0, none⟩ = some (.slice xa rec.length xc)
  m0 : w.heap[M]? = some (.map #[] 0)
  rl : rec.length ≤ 2 ^ 40
  rx : 0 < rec.length → xa = some ⟨g, 0, none⟩ ∧ ∀ j, j < rec.length → w.cell? ⟨g, j, none⟩ = some (.int .i64 (rec.getD j 0))
  n0 : 0 ≤ now
  n1 : now ≤ 2 ^ 61
  rb : ∀ j, j < rec.length → 0 ≤ rec.getD j 0 ∧ rec.getD j 0 ≤ now

set_option maxHeartbeats 1000000 in
theorem which_yes (w : World) (p R C M g cr pc xc : Nat) (pp xa ta : Option Addr) (pfx text : List Int) (rate window now : Int) (rec : List Int) (tc : Nat)
    (h : Reads w p R C M g cr pc xc pp xa pfx rate window now rec) (ht : Lib.BytesIn w ta text.length text) (htc : text.length ≤ tc) (h9 : text.length ≤ 9)
    (hb : Lib.hasPrefix (Lib.bytesOf text) (Lib.bytesOf pfx) = true) :
    Calls Tryd.prog 35 #[.pointer (some ⟨p, 0, none⟩), .slice ta text.length tc] w fun e w' =>
      e = .returned (.tuple #[.int .i64 0, .int .i64 0]) ∧ Below w.heap.size w w' := by
  obtain ⟨p0, p1, p3, p5, p6, r0, r1, r2, r3, r4, r5, hpfx, c0, m0, rl, rx, n0, n1, rb⟩ := h
  clear rx rb
  have hP := Lib.hid hb
  clear hb
  go_enter Tryd.func35, Tryd.ntmps35
  go_wp2_with (go_at_call 48; refine (unmade_no _ _ p0).mono ?_; rintro e w' ⟨rfl, rfl⟩)
  refine wp_loop_rounds 2 ?_
  rw [rounds_succ]
  go_wp2_with fail
  refine (Tryd.bytes_HasPrefix_all ta pp text.length tc pfx.length pc text pfx _ rfl rfl htc (bytesIn_on ?_ ht) (bytesIn_on ?_ hpfx)).mono ?_
  · exact (Below.refl _ _).alloc (Nat.le_refl _) _
  · exact (Below.refl _ _).alloc (Nat.le_refl _) _
  rintro e w' ⟨rfl, rfl⟩
  rw [hP.out]
  go_wp2
  go_ret2
  exact ⟨rfl, (Below.refl _ _).alloc (Nat.le_refl _) _⟩

set_option maxHeartbeats 1000000 in
theorem which_no (w : World) (p R C M g cr pc xc : Nat) (pp xa ta : Option Addr) (pfx text : List Int) (rate window now : Int) (rec : List Int) (tc : Nat)
    (h : Reads w p R C M g cr pc xc pp xa pfx rate window now rec) (ht : Lib.BytesIn w ta text.length text) (htc : text.length ≤ tc) (h9 : text.length ≤ 9)
    (hb : Lib.hasPrefix (Lib.bytesOf text) (Lib.bytesOf pfx) = false) :
    Calls Tryd.prog 35 #[.pointer (some ⟨p, 0, none⟩), .slice ta text.length tc] w fun e w' =>
      e = .returned (.tuple #[.int .i64 0, .int .i64 242]) ∧ Below w.heap.size w w' := by
  obtain ⟨p0, p1, p3, p5, p6, r0, r1, r2, r3, r4, r5, hpfx, c0, m0, rl, rx, n0, n1, rb⟩ := h
  clear rx rb
  have hP := Lib.hid hb
  clear hb
  go_enter Tryd.func35, Tryd.ntmps35
  go_wp2_with (go_at_call 48; refine (unmade_no _ _ p0).mono ?_; rintro e w' ⟨rfl, rfl⟩)
  refine wp_loop_rounds 2 ?_
  rw [rounds_succ]
  go_wp2_with fail
  refine (Tryd.bytes_HasPrefix_all ta pp text.length tc pfx.length pc text pfx _ rfl rfl htc (bytesIn_on ?_ ht) (bytesIn_on ?_ hpfx)).mono ?_
  · exact (Below.refl _ _).alloc (Nat.le_refl _) _
  · exact (Below.refl _ _).alloc (Nat.le_refl _) _
  rintro e w' ⟨rfl, rfl⟩
  rw [hP.out]
  go_wp2
  rw [rounds_succ]
  go_wp2
  go_ret2
  exact ⟨rfl, (Below.refl _ _).alloc (Nat.le_refl _) _⟩


theorem below_drew {w : World} : Below w.heap.size w w := Below.refl _ _

set_option maxHeartbeats 1000000 in
/-- What is not let by the rule. -/
theorem asked_no (w : World) (p R C M g cr pc xc : Nat) (pp xa ta : Option Addr) (pfx text : List Int) (rate window now : Int) (rec : List Int) (tc : Nat)
    (h : Reads w p R C M g cr pc xc pp xa pfx rate window now rec) (ht : Lib.BytesIn w ta text.length text) (htc : text.length ≤ tc) (h9 : text.length ≤ 9)
    (hb : Lib.hasPrefix (Lib.bytesOf text) (Lib.bytesOf pfx) = false) :
    Calls Tryd.prog 29 #[.pointer (some ⟨p, 0, none⟩), .slice ta text.length tc] w fun e w' =>
      e = .returned (.tuple #[.int .i64 0, .int .i64 242]) ∧ Below w.heap.size w w' := by
  have hR := Lib.hid h
  have hP := Lib.hid hb
  clear hb h
  go_enter Tryd.func29, Tryd.ntmps29
  go_wp2_with fail
  refine (which_no _ p R C M g cr pc xc pp xa ta pfx text rate window now rec tc hR.out ht htc h9 hP.out).mono ?_
  rintro e w' ⟨rfl, hB⟩
  go_wp2
  go_ret2
  exact ⟨rfl, hB⟩

end Go.Proofs.YtabinbeohecebaaDoor
