/- The example works(). -/
import Derived.Test.YtabinbeohecebaaDoorPolH
import Derived.Lib.SlBytesConst
namespace Go.Proofs.YtabinbeohecebaaDoor
open Go.RowKit
set_option linter.unusedVariables false
set_option linter.unusedSimpArgs false
set_option maxRecDepth 100000

theorem Full.on {w w' : World} {p R S C M g cr pc xc B : Nat} {pp xa : Option Addr} {pfx : List Int} {rate window now passed : Int} {rec : List Int} (hb : Below w.heap.size w w')
    (h : Full w p R S C M g cr pc xc B pp xa pfx rate window now passed rec) : Full w' p R S C M g cr pc xc B pp xa pfx rate window now passed rec := by
  refine ⟨h.rd.on hb, cell_on hb h.p4, cell_on hb h.s0, free_on hb (cell_lt h.rd.p3) h.fP, free_on hb (cell_lt h.s0) h.fS, free_on hb (cell_lt h.rd.c0) h.fC, ?_, Nat.le_trans h.Bw hb.size, h.pB, h.RB, h.SB, h.CB, h.MB, h.ppB, h.pS, h.pC, h.RS, h.RC, h.Rp, h.SC, h.MS, h.MC, h.Mp, h.pps, h.ps0, h.ps1⟩
  exact (Keep.of_below (D := fun _ => False) hb).owns (fun _ _ => id) h.own

theorem num_any (n : Int) (w : World) : Calls Tryd.prog 7 #[.int .i64 n] w fun e w' => e = .returned (.int .i64 n) ∧ w = w' := by
  go_enter Tryd.func7, Tryd.ntmps7
  go_wp2
  go_ret
  exact ⟨rfl, rfl⟩

/-- A row of bytes that was just made. -/
theorem bytesIn_new (w : World) (xs : List Int) (t : TypeId) (fz : Nat × Nat) : Lib.BytesIn (w.alloc (.cells (xs.map (Value.int .u8)).toArray t fz)) (some ⟨w.heap.size, 0, none⟩) xs.length xs := fun _ =>
  ⟨w.heap.size, 0, rfl, fun i hi => by
    have h := heap_alloc_new w (.cells (xs.map (Value.int .u8)).toArray t fz)
    refine cell_of h ?_
    simp [List.getD_eq_getElem?_getD, List.getElem?_eq_getElem hi]⟩

set_option maxRecDepth 100000 in
set_option maxHeartbeats 4000000 in
theorem works_any (w : World) : Calls Tryd.prog 9 #[] w fun e w' => e = .returned (.bool true) ∧ Below w.heap.size w w' := by
  have kc := fun (w : World) (C : Array Value) (n c : Nat) => Lib.run_convert_bytes_const (P := Tryd.prog) w 33 5 C n c Tryd.underlying33 Tryd.underlying5
  go_enter Tryd.func9, Tryd.ntmps9
  go_wp2_with fail
  refine (new_some (w.heap.size + 1) 1 w.heap.size 0 1 [97] 1 5 _ (by decide) (by decide) ?_ (by omega) (by omega) (by omega) (by omega) ?_ ?_ ?_ ?_ ?_ ?_).mono ?_
  · intro i hi
    obtain rfl : i = 0 := by simp at hi; omega
    rw [World.cell?_alloc_past _ _ _ (by simp)]
    exact cell_of (heap_alloc_new w _) rfl
  · simp
  · simp
  · simp
  · simp
  · simp
  · simp
  rintro e w1 ⟨p, R, S, C, M, cr, pc, B, pp, rfl, hF, bp, bS, bC, hB⟩
  have hF := Lib.hid hF
  go_wp2_with (first | (go_at_call 7; refine (num_any _ _).mono ?_; rintro e w' ⟨rfl, rfl⟩))
  refine (pass_yes _ p R S C M 0 cr pc 0 B pp none (some ⟨w1.heap.size, 0, none⟩) [97] [97, 98] 1 5 0 0 [] 2 (Full.on ?_ (hF.out 0)) ?_ (by decide) (by decide) (by omega) (by decide) (by decide) (by omega)).mono ?_
  · exact (Below.refl _ _).alloc (Nat.le_refl _) _
  · exact bytesIn_new w1 [97, 98] 5 (2, 3)
  rintro e w2 ⟨rfl, hK2, g2, xc2, _, hF2⟩
  have hF2 := Lib.hid hF2
  have hB1 : Below w.heap.size w w1 := later (((Below.refl _ _).alloc (Nat.le_refl _) _).alloc (by simp) _) hB
  have hB2 : Below w.heap.size w w2 := by
    have h1 : Keep (fun k => w.heap.size ≤ k) w1 w2 := (Keep.alloc _).trans (hK2.mono fun k _ h => by
      simp at bS bC
      rcases h with h | h <;> (show w.heap.size ≤ k; omega))
    exact ((Keep.of_below hB1).trans h1).below (Nat.le_refl _)
  go_wp2_with (first | (go_at_call 7; refine (num_any _ _).mono ?_; rintro e w' ⟨rfl, rfl⟩))
  refine (pass_no _ p R C M g2 cr pc xc2 pp (some ⟨g2, 0, none⟩) (some ⟨w2.heap.size, 0, none⟩) [97] [97, 98] 1 5 0 [0] 2 (hF2.out.rd.on ?_) ?_ (by decide) (by decide) (by omega) (by decide)).mono ?_
  · exact (Below.refl _ _).alloc (Nat.le_refl _) _
  · exact bytesIn_new w2 [97, 98] 5 (2, 3)
  rintro e w3 ⟨rfl, hB3⟩
  have hF3 : Reads w3 p R C M g2 cr pc xc2 pp (some ⟨g2, 0, none⟩) [97] 1 5 0 [0] := (hF2.out.rd.on ((Below.refl _ _).alloc (Nat.le_refl _) _)).on hB3
  have hF3 := Lib.hid hF3
  have hs : says [97] [97, 98] 1 5 0 [0] = 244 := by decide
  rw [hs]
  clear hs
  go_wp2_with (first | (go_at_call 7; refine (num_any _ _).mono ?_; rintro e w' ⟨rfl, rfl⟩))
  refine (ask_any _ p R C M g2 cr pc xc2 pp (some ⟨g2, 0, none⟩) (some ⟨w3.heap.size, 0, none⟩) [97] [98] 1 5 0 [0] 1 (hF3.out.on ?_) ?_ (by decide) (by decide) (by omega)).mono ?_
  · exact (Below.refl _ _).alloc (Nat.le_refl _) _
  · exact bytesIn_new w3 [98] 5 (1, 2)
  rintro e w4 ⟨rfl, hB4⟩
  have hs : says [97] [98] 1 5 0 [0] = 242 := by decide
  rw [hs]
  clear hs
  go_wp2_with (first | (go_at_call 7; refine (num_any _ _).mono ?_; rintro e w' ⟨rfl, rfl⟩))
  go_ret
  exact ⟨rfl, later (later hB2 (later ((Below.refl _ _).alloc (Nat.le_refl _) _) hB3)) (later ((Below.refl _ _).alloc (Nat.le_refl _) _) hB4)⟩
end Go.Proofs.YtabinbeohecebaaDoor
