/- Rules as data; bytes in memory; may a rule be? -/
import Derived.Test.YtabinbeohecebaaDoorWord
namespace Go.Proofs.YtabinbeohecebaaDoor
open Go.RowKit
set_option linter.unusedVariables false
set_option linter.unusedSimpArgs false

/-- A rule. -/
structure RD where
  al : Bool
  pf : List UInt8
  mo : Int
  ap : Int
  ra : Int
  wi : Int
def RD.zero : RD := ⟨false, [], 0, 0, 0, 0⟩

/-- Bytes behind a slice's head. -/
def Bs (w : World) (A : Option Addr) (l : List UInt8) : Prop := 0 < l.length → ∃ b o, A = some ⟨b, o, none⟩ ∧ ∀ i, i < l.length → w.cell? ⟨b, o + i, none⟩ = some (B8 (l.getD i 0))
theorem Bs.on {w w' : World} {A : Option Addr} {l : List UInt8} (hb : Below w.heap.size w w') (h : Bs w A l) : Bs w' A l := fun h0 => by
  obtain ⟨b, o, rfl, hc⟩ := h h0
  exact ⟨b, o, rfl, fun i hi => cell_on hb (hc i hi)⟩
theorem Bs.keep {D : Nat → Prop} {w w' : World} {A : Option Addr} {l : List UInt8} (h : Keep D w w') (hn : ∀ a, A = some a → ¬ D a.block) (hb : Bs w A l) : Bs w' A l := fun h0 => by
  obtain ⟨b, o, rfl, hc⟩ := hb h0
  exact ⟨b, o, rfl, fun i hi => h.cell (hn ⟨b, o, none⟩ rfl) (hc i hi)⟩
theorem Bs.nil (w : World) (A : Option Addr) : Bs w A [] := fun h => absurd h (by simp)

/-- A rule's six cells; a list of rules behind a slice's head. -/
structure RuleAt (w : World) (b o : Nat) (r : RD) : Prop where
  c0 : w.cell? ⟨b, o, none⟩ = some (.bool r.al)
  c1 : ∃ A c, w.cell? ⟨b, o + 1, none⟩ = some (.slice A r.pf.length c) ∧ r.pf.length ≤ c ∧ Bs w A r.pf
  c2 : w.cell? ⟨b, o + 2, none⟩ = some (.int .i64 r.mo)
  c3 : w.cell? ⟨b, o + 3, none⟩ = some (.int .i64 r.ap)
  c4 : w.cell? ⟨b, o + 4, none⟩ = some (.int .i64 r.ra)
  c5 : w.cell? ⟨b, o + 5, none⟩ = some (.int .i64 r.wi)
def RulesIn (w : World) (A : Option Addr) (rs : List RD) : Prop := 0 < rs.length → ∃ b o, A = some ⟨b, o, none⟩ ∧ ∀ i, i < rs.length → RuleAt w b (o + i * 6) (rs.getD i RD.zero)
theorem RuleAt.on {w w' : World} {b o : Nat} {r : RD} (hb : Below w.heap.size w w') (h : RuleAt w b o r) : RuleAt w' b o r := by
  obtain ⟨A, c, h1, hc, h2⟩ := h.c1
  exact ⟨cell_on hb h.c0, ⟨A, c, cell_on hb h1, hc, h2.on hb⟩, cell_on hb h.c2, cell_on hb h.c3, cell_on hb h.c4, cell_on hb h.c5⟩
theorem RulesIn.on {w w' : World} {A : Option Addr} {rs : List RD} (hb : Below w.heap.size w w') (h : RulesIn w A rs) : RulesIn w' A rs := fun h0 => by
  obtain ⟨b, o, rfl, hc⟩ := h h0
  exact ⟨b, o, rfl, fun i hi => (hc i hi).on hb⟩

/-! ### may a rule be? -/
def btw (n most : Int) : Bool := decide (0 ≤ n) && decide (n ≤ most)
theorem between_any (n most : Int) (w : World) :
    Calls Tryd.prog 30 #[.int .i64 n, .int .i64 most] w fun e w' => e = .returned (.bool (btw n most)) ∧ w = w' := by
  by_cases h0 : 0 ≤ n
  · go_enter Tryd.func30, Tryd.ntmps30
    go_wp2
    go_ret
    exact ⟨by simp [btw, h0], rfl⟩
  · have h0 : n < 0 := by omega
    go_enter Tryd.func30, Tryd.ntmps30
    go_wp2
    go_ret
    exact ⟨by simp [btw]; omega, rfl⟩

def mayB (al : Bool) (n : Nat) (mo ap ra wi : Int) : Bool :=
  decide (n ≤ 64) && btw mo 1048575 && btw ap 16 && btw ra 4096 && btw wi 2147483647 && ((wi == 0) == (ra == 0)) && (al || ((ap == 0) && (ra == 0)))

theorem boxed (w : World) (o : Obj) : Below w.heap.size w (w.alloc o) := (Below.refl _ _).alloc (Nat.le_refl _) o

set_option maxHeartbeats 4000000 in
theorem mayRule_any (al : Bool) (A : Option Addr) (n c : Nat) (mo ap ra wi : Int) (w : World) :
    Calls Tryd.prog 21 #[.agg #[.bool al, .slice A n c, .int .i64 mo, .int .i64 ap, .int .i64 ra, .int .i64 wi]] w fun e w' =>
      e = .returned (.bool (mayB al n mo ap ra wi)) ∧ Below w.heap.size w w' := by
  rcases Nat.lt_or_ge 64 n with hn | hn
  · go_enter Tryd.func21, Tryd.ntmps21
    go_wp2
    go_ret
    exact ⟨by rw [mayB, decide_eq_false (by omega)]; rfl, boxed _ _⟩
  have hd : decide (n ≤ 64) = true := decide_eq_true hn
  cases h1 : btw mo 1048575
  · go_enter Tryd.func21, Tryd.ntmps21
    go_wp2_with (go_at_call 30; refine (between_any _ _ _).mono ?_; rintro e w' ⟨rfl, rfl⟩)
    go_ret
    exact ⟨by simp [mayB, h1], boxed _ _⟩
  cases h2 : btw ap 16
  · go_enter Tryd.func21, Tryd.ntmps21
    go_wp2_with (go_at_call 30; refine (between_any _ _ _).mono ?_; rintro e w' ⟨rfl, rfl⟩)
    go_ret
    exact ⟨by simp [mayB, h2], boxed _ _⟩
  cases h3 : btw ra 4096
  · go_enter Tryd.func21, Tryd.ntmps21
    go_wp2_with (go_at_call 30; refine (between_any _ _ _).mono ?_; rintro e w' ⟨rfl, rfl⟩)
    go_ret
    exact ⟨by simp [mayB, h3], boxed _ _⟩
  cases h4 : btw wi 2147483647
  · go_enter Tryd.func21, Tryd.ntmps21
    go_wp2_with (go_at_call 30; refine (between_any _ _ _).mono ?_; rintro e w' ⟨rfl, rfl⟩)
    go_ret
    exact ⟨by simp [mayB, h4], boxed _ _⟩
  cases h5 : (wi == 0) <;> cases h6 : (ra == 0) <;> cases al <;> cases h7 : (ap == 0)
  all_goals
    go_enter Tryd.func21, Tryd.ntmps21
    go_wp2_with (go_at_call 30; refine (between_any _ _ _).mono ?_; rintro e w' ⟨rfl, rfl⟩)
    go_ret
    exact ⟨by simp [mayB, hd, h1, h2, h3, h4, h5, h6, h7], boxed _ _⟩

end Go.Proofs.YtabinbeohecebaaDoor
