/- policy.Print. -/
import Derived.Test.YtabinbeohecebaaDoorRuD
namespace Go.Proofs.YtabinbeohecebaaDoor
open Go.RowKit
set_option linter.unusedVariables false
set_option linter.unusedSimpArgs false

theorem isBuilder_on {T e : TypeId} {B b : Nat} {bs : List Value} {w w' : World} (hb : Below w.heap.size w w') (h : Lib.IsBuilder T e B b bs w) : Lib.IsBuilder T e B b bs w' := by
  have one : ∀ {p : Value}, Lib.BuilderAt T e B b p bs w → Lib.BuilderAt T e B b p bs w' := by
    rintro p ⟨h1, v, h2, h3, h4⟩
    exact ⟨h1, v, heap_on hb h2, (Keep.of_below (D := fun _ => False) hb).owns (fun _ _ => id) h3, h4⟩
  rcases h with h | h
  · exact .inl (one h)
  · exact .inr (one h)

theorem rulesE_zero {rs : List RD} (h : rulesE rs = 0) : rs.length ≤ 64 ∧ rs.all mayR = true := by
  unfold rulesE at h
  by_cases h1 : 64 < rs.length
  · rw [if_pos h1] at h; omega
  · rw [if_neg h1] at h
    by_cases h2 : rs.all mayR = true
    · exact ⟨by omega, h2⟩
    · rw [if_neg h2] at h; omega
theorem mayR_at {rs : List RD} (h : rs.all mayR = true) {k : Nat} (hk : k < rs.length) : mayR (rs.getD k RD.zero) = true := by
  rw [List.getD_eq_getElem?_getD, List.getElem?_eq_getElem hk]
  exact List.all_eq_true.1 h _ (List.getElem_mem hk)
theorem all_take {rs : List RD} (h : rs.all mayR = true) (k : Nat) : (rs.take k).all mayR = true := by
  rw [List.all_eq_true] at h ⊢
  exact fun x hx => h x (List.mem_of_mem_take hx)
theorem strCells_list (l : List UInt8) : Lib.strCells ⟨l.toArray⟩ = Lib.byteCells l := rfl

theorem rulesE_cases (rs : List RD) : rulesE rs = 0 ∨ rulesE rs = 8 ∨ rulesE rs = 241 := by
  unfold rulesE
  split
  · exact .inr (.inl rfl)
  · split
    · exact .inl rfl
    · exact .inr (.inr rfl)

set_option maxHeartbeats 4000000 in
theorem print_bad (A : Option Addr) (c : Nat) (rs : List RD) (w : World) (hr : RulesIn w A rs) (hl : rs.length ≤ 2199023255552) (h0 : rulesE rs ≠ 0) :
    Calls Tryd.prog 5 #[.slice A rs.length c] w fun e w' => e = .returned (.tuple #[.string ⟨#[]⟩, .int .i64 (rulesE rs)]) ∧ Below w.heap.size w w' := by
  have HR := Lib.hid hr
  clear hr
  have hcase := rulesE_cases rs
  have hc := mayRules_any A c rs w HR.out hl
  generalize rulesE rs = n at h0 hcase hc
  go_enter Tryd.func5, Tryd.ntmps5
  go_wp2_with fail
  refine hc.mono ?_
  rintro e w1 ⟨rfl, hB⟩
  clear hc
  rcases hcase with h | h | h
  · exact absurd h h0
  · subst h
    go_wp2
    go_ret2
    exact ⟨rfl, hB⟩
  · subst h
    go_wp2
    go_ret2
    exact ⟨rfl, hB⟩

set_option maxHeartbeats 4000000 in
theorem print_good (A : Option Addr) (c : Nat) (rs : List RD) (w : World) (hr : RulesIn w A rs) (ht : Tab w.heap.size w) (h0 : rulesE rs = 0) :
    Calls Tryd.prog 5 #[.slice A rs.length c] w fun e w' => e = .returned (.tuple #[.string ⟨(textL rs).toArray⟩, .int .i64 0]) ∧ Below w.heap.size w w' := by
  obtain ⟨h64, hall⟩ := rulesE_zero h0
  have HR := Lib.hid hr
  have HT := Lib.hid ht
  clear hr ht
  have hc := mayRules_any A c rs w HR.out (by omega)
  rw [h0] at hc
  clear h0
  have hall := Lib.hid hall
  go_enter Tryd.func5, Tryd.ntmps5
  go_wp2_with fail
  refine hc.mono ?_
  rintro e w1 ⟨rfl, hB⟩
  clear hc
  go_wp2
  have hI : Lib.IsBuilder 40 5 w1.heap.size w1.heap.size [] (w1.alloc (.cells #[.pointer none, .slice none 0 0] 40)) := Lib.fresh_isBuilder _ 5 w1
  have hBI : Below w.heap.size w (w1.alloc (.cells #[.pointer none, .slice none 0 0] 40)) := later hB (boxed _ _)
  have hI1 : w1.heap.size ≤ (w1.alloc (.cells #[.pointer none, .slice none 0 0] 40)).heap.size := by simp
  generalize w1.alloc (.cells #[.pointer none, .slice none 0 0] 40) = wi at hI hBI hI1 ⊢
  have hBw := hB.size
  generalize w1.heap.size = B at hI hI1 hBw ⊢
  go_loopw [7, 15] (fun _ i wr => ∃ k : Nat, k ≤ rs.length ∧ i = .int .i64 k ∧ Lib.IsBuilder 40 5 B B (Lib.byteCells (textL (rs.take k))) wr ∧ Below w.heap.size w wr ∧ B ≤ wr.heap.size) (fun _ i _ => rs.length - (intOf i).toNat)
  case atStart => exact ⟨0, Nat.zero_le _, rfl, hI, hBI, hI1⟩
  case round =>
    clear hI hBI hI1
    obtain ⟨k, hk, rfl, hI, hB, hsz⟩ := hrel
    by_cases hlt : k < rs.length
    · obtain ⟨b, o, rfl, H⟩ := HR.out (by omega)
      have hR := (H k hlt).on hB
      have hs := Lib.hid (textL_take_succ hlt)
      have hm : mayR (rs.getD k RD.zero) = true := mayR_at hall.out hlt
      have hlen : (Lib.byteCells (textL (rs.take k))).length ≤ 20000 := by
        have h1 := textL_len (all_take hall.out k)
        have h2 : (rs.take k).length ≤ 64 := by rw [List.length_take]; omega
        rw [Lib.byteCells_length]; omega
      have hI := Lib.hid hI
      have hT := Lib.hid (HT.out.on hB)
      have hB := Lib.hid hB
      clear H HR
      generalize textL (rs.take k) = acc at hI hs hlen
      generalize rs.getD k RD.zero = r at hR hs hm
      have hlr := lineL_len hm
      have hm := Lib.hid hm
      obtain ⟨A1, c1, x1, -, hbs⟩ := hR.c1
      have hbs := Lib.hid hbs
      have x0 := hR.c0
      have x2 := hR.c2
      have x3 := hR.c3
      have x4 := hR.c4
      have x5 := hR.c5
      have hR := Lib.hid hR
      go_wp2_with fail
      refine (line_any r.al A1 c1 r.pf r.mo r.ap r.ra r.wi _ (hbs.out.on (boxed _ _)) hm.out (hT.out.on (boxed _ _))).mono ?_
      rintro e w2 ⟨rfl, b2⟩
      have b2 := later (boxed _ _) b2
      have hI2 := Lib.hid (isBuilder_on b2 hI.out)
      have hB2 := Lib.hid (later hB.out b2)
      have hsz2 : B ≤ w2.heap.size := Nat.le_trans hsz b2.size
      have b2 := Lib.hid b2
      go_wp2_with fail
      refine (bu_stringW B B _ _ _ hI2.out ?_ hsz2).mono ?_
      · have e1 : (⟨#[10]⟩ : ByteArray).size = 1 := rfl
        rw [ByteArray.size_append', size_list, e1]
        omega
      rintro e w3 ⟨rfl, hI3, b3⟩
      have hI3 := Lib.hid hI3
      have hB3 : Below w.heap.size w w3 := hB2.out.trans (b3.mono hBw)
      have hsz3 := Nat.le_trans hsz2 b3.size
      have b3 := Lib.hid b3
      have hB3 := Lib.hid hB3
      go_wp2
      go_roundw
      case rel =>
        refine ⟨k + 1, by omega, by go_num, ?_, hB3.out, hsz3⟩
        rw [hs.out, Lib.byteCells_append]
        exact hI3.out
      case measure => simp [intOf]; omega
    · have : k = rs.length := by omega
      subst this
      rw [List.take_length] at hI
      go_wp2_with fail
      refine (Tryd.Builder_String_any B B _ _ hI hsz).mono ?_
      rintro e w4 ⟨rfl, b4⟩
      go_wp2
      go_ret2
      exact ⟨rfl, hB.trans (b4.mono hBw)⟩
end Go.Proofs.YtabinbeohecebaaDoor
