/- A rule's line. -/
import Derived.Test.YtabinbeohecebaaDoorRuC
import Derived.Lib.AppendIntMem
import Derived.Deep.RegionHeld3
import Derived.Deep.DeepCutAuto
namespace Go.Proofs.YtabinbeohecebaaDoor
open Go.RowKit
set_option linter.unusedVariables false
set_option linter.unusedSimpArgs false

/-- The table of strconv's, from a block on. -/
abbrev Tab (B : Nat) (w : World) : Prop := Lib.TabBelow Tryd.prog B w "internal/strconv.uint64pow10" .u64 Lib.pow10Tab
theorem Tab.on {w w' : World} (h : Tab w.heap.size w) (hb : Below w.heap.size w w') : Tab w'.heap.size w' := fun w2 h2 => h w2 (later hb h2)
theorem Tab.at {w w' : World} (h : Tab w.heap.size w) (hb : Below w.heap.size w w') : Lib.TabIs Tryd.prog w' "internal/strconv.uint64pow10" .u64 Lib.pow10Tab := h w' hb

theorem itoa_any (n : Int) (h0 : 0 ≤ n) (h1 : n ≤ 2147483647) (w : World) (ht : Lib.TabIs Tryd.prog w "internal/strconv.uint64pow10" .u64 Lib.pow10Tab) :
    Calls Tryd.prog 24 #[.int .i64 n] w fun e w' => e = .returned (.string ⟨(Lib.itoa n).toArray⟩) ∧ Below w.heap.size w w' :=
  (Tryd.strconv_Itoa n (by omega) (by omega) w ht).mono fun e w' ⟨he, k, os, hw⟩ => ⟨he, hw ▸ Lib.below_grow _ w (Nat.le_refl _) k os⟩

theorem str_eq {a b : List UInt8} (h : a = b) : Ending.returned (.string ⟨a.toArray⟩) = .returned (.string ⟨b.toArray⟩) := by rw [h]

/-- The rule in its box. -/
structure Box (w : World) (B : Nat) (al : Bool) (A : Option Addr) (n c : Nat) (mo ap ra wi : Int) : Prop where
  c0 : w.cell? ⟨B, 0, none⟩ = some (.bool al)
  c1 : w.cell? ⟨B, 1, none⟩ = some (.slice A n c)
  c2 : w.cell? ⟨B, 2, none⟩ = some (.int .i64 mo)
  c3 : w.cell? ⟨B, 3, none⟩ = some (.int .i64 ap)
  c4 : w.cell? ⟨B, 4, none⟩ = some (.int .i64 ra)
  c5 : w.cell? ⟨B, 5, none⟩ = some (.int .i64 wi)
theorem Box.on {w w' : World} {B : Nat} {al : Bool} {A : Option Addr} {n c : Nat} {mo ap ra wi : Int} (hb : Below w.heap.size w w') (h : Box w B al A n c mo ap ra wi) : Box w' B al A n c mo ap ra wi :=
  ⟨cell_on hb h.c0, cell_on hb h.c1, cell_on hb h.c2, cell_on hb h.c3, cell_on hb h.c4, cell_on hb h.c5⟩
theorem Box.mk0 (w : World) (al : Bool) (A : Option Addr) (n c : Nat) (mo ap ra wi : Int) (T : TypeId) : Box (w.alloc (.cells #[.bool al, .slice A n c, .int .i64 mo, .int .i64 ap, .int .i64 ra, .int .i64 wi] T)) w.heap.size al A n c mo ap ra wi := by
  have h := heap_alloc_new w (.cells #[.bool al, .slice A n c, .int .i64 mo, .int .i64 ap, .int .i64 ra, .int .i64 wi] T)
  exact ⟨cell_of h rfl, cell_of h rfl, cell_of h rfl, cell_of h rfl, cell_of h rfl, cell_of h rfl⟩

theorem size_list (l : List UInt8) : (⟨l.toArray⟩ : ByteArray).size = l.length := by simp [ByteArray.size]

def lineA (al : Bool) (pf : List UInt8) : List UInt8 := (if al then kAllow else kDeny) ++ (if 0 < pf.length then kPrefix ++ hexL pf else [])
def lineB (al : Bool) (pf : List UInt8) (mo : Int) : List UInt8 := lineA al pf ++ (kMost ++ Lib.itoa mo)
def lineC (al : Bool) (pf : List UInt8) (mo ap : Int) : List UInt8 := lineB al pf mo ++ (if 0 < ap then kAppr ++ Lib.itoa ap else [])
theorem lineL_eq (al : Bool) (pf : List UInt8) (mo ap ra wi : Int) : lineL al pf mo ap ra wi = lineC al pf mo ap ++ (if 0 < ra then kRate ++ Lib.itoa ra ++ kWindow ++ Lib.itoa wi else []) := rfl

theorem keepS {w W W' : World} {B : Nat} {ra wi : Int} (h : Below W.heap.size W W') (hS : W.cell? ⟨B, 4, none⟩ = some (.int .i64 ra) ∧ W.cell? ⟨B, 5, none⟩ = some (.int .i64 wi) ∧ Below w.heap.size w W) :
    W'.cell? ⟨B, 4, none⟩ = some (.int .i64 ra) ∧ W'.cell? ⟨B, 5, none⟩ = some (.int .i64 wi) ∧ Below w.heap.size w W' := ⟨cell_on h hS.1, cell_on h hS.2.1, later hS.2.2 h⟩
theorem str_val {a : ByteArray} {b : List UInt8} (h : a.data.toList = b) : Value.string a = .string ⟨b.toArray⟩ := by
  subst h
  rfl

set_option maxHeartbeats 4000000 in
theorem line_any (al : Bool) (A : Option Addr) (c : Nat) (pf : List UInt8) (mo ap ra wi : Int) (w : World) (hb : Bs w A pf) (hm : mayB al pf.length mo ap ra wi = true) (ht : Tab w.heap.size w) :
    Calls Tryd.prog 13 #[.agg #[.bool al, .slice A pf.length c, .int .i64 mo, .int .i64 ap, .int .i64 ra, .int .i64 wi]] w fun e w' =>
      e = .returned (.string ⟨(lineL al pf mo ap ra wi).toArray⟩) ∧ Below w.heap.size w w' := by
  obtain ⟨m1, ⟨m2, m2'⟩, ⟨m3, m3'⟩, ⟨m4, m4'⟩, ⟨m5, m5'⟩⟩ := mayB_bd hm
  clear hm
  have HB := Lib.hid hb
  have HT := Lib.hid ht
  clear hb ht
  have l1 := itoa_len m2 (by omega)
  have l2 := itoa_len m3 (by omega)
  have l3 := itoa_len m4 (by omega)
  have l4 := itoa_len m5 m5'
  have l5 : (hexL pf).length ≤ 128 := by rw [hexL_length]; omega
  have s1 : (lineA al pf).length ≤ 150 := by
    have f1 : (if al = true then kAllow else kDeny).length ≤ 5 := by cases al <;> decide
    have f2 : (if 0 < pf.length then kPrefix ++ hexL pf else []).length ≤ 136 := by split <;> simp [kPrefix]; omega
    unfold lineA; rw [List.length_append]; omega
  have s2 : (lineB al pf mo).length ≤ 170 := by
    have f5 : kMost.length = 6 := rfl
    unfold lineB; rw [List.length_append, List.length_append]; omega
  have s3 : (lineC al pf mo ap).length ≤ 200 := by
    have f3 : (if 0 < ap then kAppr ++ Lib.itoa ap else []).length ≤ 21 := by split <;> simp [kAppr]; omega
    unfold lineC; rw [List.length_append]; omega
  have hbx := Lib.hid (Box.mk0 w al A pf.length c mo ap ra wi 35)
  have hbb := Lib.hid (boxed w (.cells #[.bool al, .slice A pf.length c, .int .i64 mo, .int .i64 ap, .int .i64 ra, .int .i64 wi] 35))
  go_enter Tryd.func13, Tryd.ntmps13
  go_upto_if 5 with fail
  go_cut [3] (fun s wx => s = .string ⟨(if al then kAllow else kDeny).toArray⟩ ∧ Box wx w.heap.size al A pf.length c mo ap ra wi ∧ Below w.heap.size w wx)
  case first =>
    cases al
    all_goals
      go_wp2_with fail
      go_meet
    · exact ⟨rfl, hbx.out, hbb.out⟩
    · exact ⟨rfl, hbx.out, hbb.out⟩
  case rest =>
    clear hbx hbb
    obtain ⟨rfl, hbx, hbb⟩ := hcut
    have hbx := Lib.hid hbx
    obtain ⟨c0, c1, c2, c3, c4, c5⟩ := hbx.out
    have hbb := Lib.hid hbb
    have f1 : (if al = true then kAllow else kDeny).length ≤ 5 := by cases al <;> decide
    go_upto_if 9 with fail
    go_cut [3] (fun s wx => s = .string ⟨(lineA al pf).toArray⟩ ∧ Box wx w.heap.size al A pf.length c mo ap ra wi ∧ Below w.heap.size w wx)
    case first =>
      generalize hfa : (if al = true then kAllow else kDeny) = fa at f1
      have hfa := Lib.hid hfa
      rcases Nat.eq_zero_or_pos pf.length with hp | hp
      · go_wp2_with fail
        go_meet
        exact ⟨str_val (by simp [lineA, hfa.out, hp]), hbx.out, hbb.out⟩
      · go_wp2_with fail
        refine (hexOf_any A c pf _ (HB.out.on hbb.out) (by omega)).mono ?_
        rintro e w1 ⟨rfl, b1⟩
        have hbx := Lib.hid (hbx.out.on b1)
        have hbb := Lib.hid (later hbb.out b1)
        clear b1
        go_wp2_with fail
        go_meet
        exact ⟨str_val (by simp [lineA, hfa.out, kPrefix, hp]), hbx.out, hbb.out⟩
    case rest =>
      clear hbx hbb f1 c0 c1 c2 c3 c4 c5
      obtain ⟨rfl, hbx, hbb⟩ := hcut
      have hbx := Lib.hid hbx
      obtain ⟨c0, c1, c2, c3, c4, c5⟩ := hbx.out
      have hbb := Lib.hid hbb
      go_wp2_with fail
      refine (itoa_any mo (by omega) (by omega) _ (HT.out.at hbb.out)).mono ?_
      rintro e w2 ⟨rfl, b1⟩
      have hbx := Lib.hid (hbx.out.on b1)
      have hbb := Lib.hid (later hbb.out b1)
      clear c0 c1 c2 c3 c4 c5
      obtain ⟨c0, c1, c2, c3, c4, c5⟩ := hbx.out
      clear b1
      go_upto_if 24 with fail
      go_cut [3] (fun s wx => s = .string ⟨(lineC al pf mo ap).toArray⟩ ∧ Box wx w.heap.size al A pf.length c mo ap ra wi ∧ Below w.heap.size w wx)
      case first =>
        rcases Int.lt_or_le 0 ap with ha | ha
        · go_wp2_with fail
          refine (itoa_any ap (by omega) (by omega) _ (HT.out.at hbb.out)).mono ?_
          rintro e w3 ⟨rfl, b1⟩
          have hbx := Lib.hid (hbx.out.on b1)
          have hbb := Lib.hid (later hbb.out b1)
          clear b1
          go_wp2_with fail
          go_meet
          exact ⟨str_val (by simp [lineC, lineB, kMost, kAppr, ha]), hbx.out, hbb.out⟩
        · go_wp2_with fail
          go_meet
          exact ⟨str_val (by simp [lineC, lineB, kMost, Int.not_lt.2 ha]), hbx.out, hbb.out⟩
      case rest =>
        clear hbx hbb c0 c1 c2 c3 c4 c5
        obtain ⟨rfl, hbx, hbb⟩ := hcut
        have hbx := Lib.hid hbx
        obtain ⟨c0, c1, c2, c3, c4, c5⟩ := hbx.out
        rcases Int.lt_or_le 0 ra with hr | hr
        · have q1 : ¬ (9223372036854775807 < 6 + (Lib.itoa ra).length) := by omega
          have q2 : ¬ (9223372036854775807 < 6 + (Lib.itoa ra).length + 8) := by omega
          have q3 : ¬ (9223372036854775807 < 6 + (Lib.itoa ra).length + 8 + (Lib.itoa wi).length) := by omega
          have q4 : ¬ (9223372036854775807 < (lineC al pf mo ap).length + (6 + (Lib.itoa ra).length + 8 + (Lib.itoa wi).length)) := by omega
          go_wp2_with fail
          go_region_held3 (fun w' => w'.cell? ⟨w.heap.size, 4, none⟩ = some (.int .i64 ra) ∧ w'.cell? ⟨w.heap.size, 5, none⟩ = some (.int .i64 wi) ∧ Below w.heap.size w w')
            (first | ((try dsimp only); exact ⟨c4, c5, hbb.drew⟩) | (go_split_ands; exact keepS (by assumption) ⟨by assumption, by assumption, by assumption⟩))
            ((go_at_call 24; go_split_ands; refine (itoa_any _ ?_ ?_ _ (HT.out.at ?_)).mono ?_; (omega); (omega); (assumption); rintro e w' ⟨rfl, hb'⟩))
          all_goals
            go_split_ands
            go_wp2
            go_ret
            refine ⟨?_, by assumption⟩
            show Ending.returned (Value.string _) = _
            rw [lineL_eq, if_pos hr, ← str_val (b := lineC al pf mo ap ++ (kRate ++ Lib.itoa ra ++ kWindow ++ Lib.itoa wi)) ?_]
            simp [kRate, kWindow]
        · go_wp2
          go_ret
          exact ⟨str_eq (by rw [lineL_eq, if_neg (by omega), List.append_nil]), hbb⟩
end Go.Proofs.YtabinbeohecebaaDoor
