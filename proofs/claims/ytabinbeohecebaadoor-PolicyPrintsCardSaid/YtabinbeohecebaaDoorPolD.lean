/- asked, where the rule matches. -/
import Derived.Test.YtabinbeohecebaaDoorPolC
namespace Go.Proofs.YtabinbeohecebaaDoor
open Go.RowKit
set_option linter.unusedVariables false
set_option linter.unusedSimpArgs false
set_option maxRecDepth 100000

theorem Reads.on {w w' : World} {p R C M g cr pc xc : Nat} {pp xa : Option Addr} {pfx : List Int} {rate window now : Int} {rec : List Int} (hb : Below w.heap.size w w')
    (h : Reads w p R C M g cr pc xc pp xa pfx rate window now rec) : Reads w' p R C M g cr pc xc pp xa pfx rate window now rec := by
  obtain ⟨p0, p1, p3, p5, p6, r0, r1, r2, r3, r4, r5, hpfx, c0, m0, rl, rx, n0, n1, rb⟩ := h
  exact ⟨cell_on hb p0, cell_on hb p1, cell_on hb p3, cell_on hb p5, cell_on hb p6, cell_on hb r0, cell_on hb r1, cell_on hb r2, cell_on hb r3, cell_on hb r4, cell_on hb r5, bytesIn_on hb hpfx, cell_on hb c0,
    heap_on hb m0, rl, fun h => ⟨(rx h).1, fun j hj => cell_on hb ((rx h).2 j hj)⟩, n0, n1, rb⟩

theorem inWindow_of (w : World) (p R C M g cr pc xc : Nat) (pp xa : Option Addr) (pfx : List Int) (rate window now : Int) (rec : List Int)
    (h : Reads w p R C M g cr pc xc pp xa pfx rate window now rec) :
    Calls Tryd.prog 36 #[.pointer (some ⟨p, 0, none⟩), .int .i64 0] w fun e w' => e = .returned (.int .i64 (inWin now window rec).length) ∧ ∃ n, w' = w.drewN n :=
  inWindow_any w p R C g cr xc xa now window rec h.p1 h.p3 h.p5 h.r5 h.c0 h.rl h.rx h.n0 h.n1 h.rb

theorem look_empty (w : World) (M : Nat) (s : ByteArray) (h : w.heap[M]? = some (.map #[] 0)) :
    (Instr.lookup 65 (.map (some M)) (.string s) false).run Tryd.prog w = .ok (.map none) w := by
  have hz : ∀ w, (zeroValue 83).run Tryd.prog w = .ok (.map none) w := fun _ => by kernel_rfl
  have hk : (Instr.checkKey true 10000 9 (.string s)).run Tryd.prog w = .ok () w := by
    show (Instr.checkKey true (9999 + 1) 9 (.string s)).run Tryd.prog w = .ok () w
    generalize 9999 = n
    simp [Instr.checkKey, run_underlying Tryd.underlying9]
  have hf : (Instr.findKey 9 (.string s) []).run Tryd.prog w = .ok none w := by
    simp [Instr.findKey, Instr.findNow, run_underlying Tryd.underlying9]
  have hg : (getObj M).run Tryd.prog w = .ok (.map #[] 0) w := by simp [getObj, Sem.run, h]
  simp [Instr.lookup, run_underlying Tryd.underlying65, hg, hk, hf, hz]

set_option maxHeartbeats 2000000 in
theorem asked_yes (w : World) (p R C M g cr pc xc : Nat) (pp xa ta : Option Addr) (pfx text : List Int) (rate window now : Int) (rec : List Int) (tc : Nat)
    (h : Reads w p R C M g cr pc xc pp xa pfx rate window now rec) (ht : Lib.BytesIn w ta text.length text) (htc : text.length ≤ tc) (h9 : text.length ≤ 9)
    (hb : Lib.hasPrefix (Lib.bytesOf text) (Lib.bytesOf pfx) = true) (hr : 0 < rate) (hlt : ((inWin now window rec).length : Int) < rate) :
    Calls Tryd.prog 29 #[.pointer (some ⟨p, 0, none⟩), .slice ta text.length tc] w fun e w' =>
      e = .returned (.tuple #[.int .i64 0, .int .i64 0]) ∧ Below w.heap.size w w' := by
  have hR := Lib.hid h
  have hP := Lib.hid hb
  clear hb h
  go_enter Tryd.func29, Tryd.ntmps29
  go_wp2_with fail
  refine (which_yes _ p R C M g cr pc xc pp xa ta pfx text rate window now rec tc hR.out ht htc h9 hP.out).mono ?_
  rintro e w1 ⟨rfl, hB⟩
  have hR1 := Lib.hid (hR.out.on hB)
  obtain ⟨p0, p1, p3, p5, p6, r0, r1, r2, r3, r4, r5, hpfx, c0, m0, rl, rx, n0, n1, rb⟩ := hR1.out
  clear rx rb
  have lp : p < w1.heap.size := cell_lt p0
  have lR : R < w1.heap.size := cell_lt r0
  have lC : C < w1.heap.size := cell_lt c0
  go_wp2
  have hcv : ∀ nq, (convert 33 9 (.slice ta text.length tc)).run Tryd.prog ((w1.alloc
      (Obj.cells #[Value.bool true, Value.slice pp pfx.length pc, Value.int IntKind.i64 9, Value.int IntKind.i64 0, Value.int IntKind.i64 rate, Value.int IntKind.i64 window] 35)).drewN nq) = .ok (.string (strOfNums text)) ((w1.alloc
      (Obj.cells #[Value.bool true, Value.slice pp pfx.length pc, Value.int IntKind.i64 9, Value.int IntKind.i64 0, Value.int IntKind.i64 rate, Value.int IntKind.i64 window] 35)).drewN nq) := fun nq =>
    (bytesIn_on (below_drewN (hB.alloc (by have := hB.size; omega) _) nq) ht).convert rfl tc 33 5 9 Tryd.underlying33 Tryd.underlying5 Tryd.underlying9
  have hlk : ∀ nq, (Instr.lookup 65 (.map (some M)) (.string (strOfNums text)) false).run Tryd.prog ((w1.alloc
      (Obj.cells #[Value.bool true, Value.slice pp pfx.length pc, Value.int IntKind.i64 9, Value.int IntKind.i64 0, Value.int IntKind.i64 rate, Value.int IntKind.i64 window] 35)).drewN nq) = .ok (.map none) ((w1.alloc
      (Obj.cells #[Value.bool true, Value.slice pp pfx.length pc, Value.int IntKind.i64 9, Value.int IntKind.i64 0, Value.int IntKind.i64 rate, Value.int IntKind.i64 window] 35)).drewN nq) := fun nq =>
    look_empty _ _ _ (heap_on (below_drewN ((Below.refl _ _).alloc (Nat.le_refl _) _) nq) m0)
  go_quiet (fail)
  go_wp2
  obtain ⟨w2, hw2⟩ : ∃ w2, w2 = (w1.alloc (Obj.cells #[Value.bool true, Value.slice pp pfx.length pc, Value.int IntKind.i64 9, Value.int IntKind.i64 0, Value.int IntKind.i64 rate, Value.int IntKind.i64 window] 35)).drewN nq := ⟨_, rfl⟩
  rw [← hw2]
  have hB2 : Below w1.heap.size w1 w2 := by rw [hw2]; exact below_drewN ((Below.refl _ _).alloc (Nat.le_refl _) _) nq
  have hbox : w2.cell? ⟨w1.heap.size, 4, none⟩ = some (.int .i64 rate) := by rw [hw2]; simp
  have hR2 := Lib.hid (hR1.out.on hB2)
  clear hw2 hcv hlk p0 p1 p3 p5 p6 r0 r1 r2 r3 r4 r5 hpfx c0 m0
  have hge : decide (rate ≤ ((inWin now window rec).length : Int)) = false := by simp; omega
  go_quiet ((go_at_call 36; refine Calls.quiet_of (inWindow_of _ _ _ _ _ _ _ _ _ _ _ _ _ _ _ _ (hR2.out.on (below_drewN (Below.refl _ _) _)))))
  go_wp2
  go_ret2
  exact ⟨rfl, below_drewN (later hB hB2) _⟩
set_option maxHeartbeats 2000000 in
theorem asked_full (w : World) (p R C M g cr pc xc : Nat) (pp xa ta : Option Addr) (pfx text : List Int) (rate window now : Int) (rec : List Int) (tc : Nat)
    (h : Reads w p R C M g cr pc xc pp xa pfx rate window now rec) (ht : Lib.BytesIn w ta text.length text) (htc : text.length ≤ tc) (h9 : text.length ≤ 9)
    (hb : Lib.hasPrefix (Lib.bytesOf text) (Lib.bytesOf pfx) = true) (hr : 0 < rate) (hlt : rate ≤ ((inWin now window rec).length : Int)) :
    Calls Tryd.prog 29 #[.pointer (some ⟨p, 0, none⟩), .slice ta text.length tc] w fun e w' =>
      e = .returned (.tuple #[.int .i64 0, .int .i64 244]) ∧ Below w.heap.size w w' := by
  have hR := Lib.hid h
  have hP := Lib.hid hb
  clear hb h
  go_enter Tryd.func29, Tryd.ntmps29
  go_wp2_with fail
  refine (which_yes _ p R C M g cr pc xc pp xa ta pfx text rate window now rec tc hR.out ht htc h9 hP.out).mono ?_
  rintro e w1 ⟨rfl, hB⟩
  have hR1 := Lib.hid (hR.out.on hB)
  obtain ⟨p0, p1, p3, p5, p6, r0, r1, r2, r3, r4, r5, hpfx, c0, m0, rl, rx, n0, n1, rb⟩ := hR1.out
  clear rx rb
  have lp : p < w1.heap.size := cell_lt p0
  have lR : R < w1.heap.size := cell_lt r0
  have lC : C < w1.heap.size := cell_lt c0
  go_wp2
  have hcv : ∀ nq, (convert 33 9 (.slice ta text.length tc)).run Tryd.prog ((w1.alloc
      (Obj.cells #[Value.bool true, Value.slice pp pfx.length pc, Value.int IntKind.i64 9, Value.int IntKind.i64 0, Value.int IntKind.i64 rate, Value.int IntKind.i64 window] 35)).drewN nq) = .ok (.string (strOfNums text)) ((w1.alloc
      (Obj.cells #[Value.bool true, Value.slice pp pfx.length pc, Value.int IntKind.i64 9, Value.int IntKind.i64 0, Value.int IntKind.i64 rate, Value.int IntKind.i64 window] 35)).drewN nq) := fun nq =>
    (bytesIn_on (below_drewN (hB.alloc (by have := hB.size; omega) _) nq) ht).convert rfl tc 33 5 9 Tryd.underlying33 Tryd.underlying5 Tryd.underlying9
  have hlk : ∀ nq, (Instr.lookup 65 (.map (some M)) (.string (strOfNums text)) false).run Tryd.prog ((w1.alloc
      (Obj.cells #[Value.bool true, Value.slice pp pfx.length pc, Value.int IntKind.i64 9, Value.int IntKind.i64 0, Value.int IntKind.i64 rate, Value.int IntKind.i64 window] 35)).drewN nq) = .ok (.map none) ((w1.alloc
      (Obj.cells #[Value.bool true, Value.slice pp pfx.length pc, Value.int IntKind.i64 9, Value.int IntKind.i64 0, Value.int IntKind.i64 rate, Value.int IntKind.i64 window] 35)).drewN nq) := fun nq =>
    look_empty _ _ _ (heap_on (below_drewN ((Below.refl _ _).alloc (Nat.le_refl _) _) nq) m0)
  go_quiet (fail)
  go_wp2
  obtain ⟨w2, hw2⟩ : ∃ w2, w2 = (w1.alloc (Obj.cells #[Value.bool true, Value.slice pp pfx.length pc, Value.int IntKind.i64 9, Value.int IntKind.i64 0, Value.int IntKind.i64 rate, Value.int IntKind.i64 window] 35)).drewN nq := ⟨_, rfl⟩
  rw [← hw2]
  have hB2 : Below w1.heap.size w1 w2 := by rw [hw2]; exact below_drewN ((Below.refl _ _).alloc (Nat.le_refl _) _) nq
  have hbox : w2.cell? ⟨w1.heap.size, 4, none⟩ = some (.int .i64 rate) := by rw [hw2]; simp
  have hR2 := Lib.hid (hR1.out.on hB2)
  clear hw2 hcv hlk p0 p1 p3 p5 p6 r0 r1 r2 r3 r4 r5 hpfx c0 m0
  have hge : decide (rate ≤ ((inWin now window rec).length : Int)) = true := by simp; omega
  go_quiet ((go_at_call 36; refine Calls.quiet_of (inWindow_of _ _ _ _ _ _ _ _ _ _ _ _ _ _ _ _ (hR2.out.on (below_drewN (Below.refl _ _) _)))))
  go_wp2
  go_ret2
  exact ⟨rfl, below_drewN (later hB hB2) _⟩

/-- What Ask and Pass answer. -/
def says (pfx text : List Int) (rate window now : Int) (rec : List Int) : Int :=
  if Lib.hasPrefix (Lib.bytesOf text) (Lib.bytesOf pfx) then if ((inWin now window rec).length : Int) < rate then 0 else 244 else 242

theorem asked_any (w : World) (p R C M g cr pc xc : Nat) (pp xa ta : Option Addr) (pfx text : List Int) (rate window now : Int) (rec : List Int) (tc : Nat)
    (h : Reads w p R C M g cr pc xc pp xa pfx rate window now rec) (ht : Lib.BytesIn w ta text.length text) (htc : text.length ≤ tc) (h9 : text.length ≤ 9) (hr : 0 < rate) :
    Calls Tryd.prog 29 #[.pointer (some ⟨p, 0, none⟩), .slice ta text.length tc] w fun e w' =>
      e = .returned (.tuple #[.int .i64 0, .int .i64 (says pfx text rate window now rec)]) ∧ Below w.heap.size w w' := by
  unfold says
  by_cases hb : Lib.hasPrefix (Lib.bytesOf text) (Lib.bytesOf pfx) = true
  · rw [if_pos hb]
    by_cases hlt : ((inWin now window rec).length : Int) < rate
    · rw [if_pos hlt]; exact asked_yes w p R C M g cr pc xc pp xa ta pfx text rate window now rec tc h ht htc h9 hb hr hlt
    · rw [if_neg hlt]; exact asked_full w p R C M g cr pc xc pp xa ta pfx text rate window now rec tc h ht htc h9 hb hr (by omega)
  · rw [if_neg hb]; exact asked_no w p R C M g cr pc xc pp xa ta pfx text rate window now rec tc h ht htc h9 (Bool.eq_false_iff.2 hb)

theorem ask_any (w : World) (p R C M g cr pc xc : Nat) (pp xa ta : Option Addr) (pfx text : List Int) (rate window now : Int) (rec : List Int) (tc : Nat)
    (h : Reads w p R C M g cr pc xc pp xa pfx rate window now rec) (ht : Lib.BytesIn w ta text.length text) (htc : text.length ≤ tc) (h9 : text.length ≤ 9) (hr : 0 < rate) :
    Calls Tryd.prog 20 #[.pointer (some ⟨p, 0, none⟩), .slice ta text.length tc] w fun e w' =>
      e = .returned (.int .i64 (says pfx text rate window now rec)) ∧ Below w.heap.size w w' := by
  have hR := Lib.hid h
  clear h
  go_enter Tryd.func20, Tryd.ntmps20
  go_wp2_with fail
  refine (asked_any _ p R C M g cr pc xc pp xa ta pfx text rate window now rec tc hR.out ht htc h9 hr).mono ?_
  rintro e w1 ⟨rfl, hB⟩
  go_wp2
  go_ret
  exact ⟨rfl, hB⟩
end Go.Proofs.YtabinbeohecebaaDoor
