/- The reference: line, Print. -/
import Derived.Test.YtabinbeohecebaaDoorRuG
import Derived.Deep.RegionHeld3
namespace Go.Proofs.YtabinbeohecebaaDoor
open Go.RowKit
set_option linter.unusedVariables false
set_option linter.unusedSimpArgs false

theorem conv_two (w : World) (x y : UInt8) :
    (convert 33 9 (.slice (some ⟨w.heap.size, 0, none⟩) 2 2)).run Tryd.prog (w.alloc (.cells #[B8 x, B8 y] 5)).drew = .ok (.string ⟨#[x, y]⟩) (w.alloc (.cells #[B8 x, B8 y] 5)).drew := by
  refine run_convert_bytes_back (w.alloc (.cells #[B8 x, B8 y] 5)).drew _ _ 5 ⟨w.heap.size, 0, none⟩ 2 [x, y] Tryd.underlying33 Tryd.underlying5 Tryd.underlying9 ?_
  intro k hk
  have h : (w.alloc (.cells #[B8 x, B8 y] 5)).drew.heap[w.heap.size]? = some (.cells #[B8 x, B8 y] 5 (0, 0)) := heap_alloc_new w (.cells #[B8 x, B8 y] 5)
  rw [Go.WideShapes.add_plain]
  match k, hk with
  | 0, _ => exact cell_of h rfl
  | 1, _ => exact cell_of h rfl

theorem refdec_int (n : Int) (h0 : 0 ≤ n) (h1 : n ≤ 2147483647) (w : World) :
    Calls Tryd.prog 26 #[.int .i64 n] w fun e w' => e = .returned (.string ⟨(Lib.itoa n).toArray⟩) ∧ Below w.heap.size w w' := by
  obtain ⟨m, rfl⟩ := Int.eq_ofNat_of_zero_le h0
  rw [Lib.itoa_nonneg]
  exact dec_any m (by omega) w

set_option maxHeartbeats 8000000 in
set_option maxRecDepth 100000 in
theorem refLine_any (al : Bool) (A : Option Addr) (c : Nat) (pf : List UInt8) (mo ap ra wi : Int) (w : World) (hb : Bs w A pf) (hm : mayB al pf.length mo ap ra wi = true) :
    Calls Tryd.prog 16 #[.agg #[.bool al, .slice A pf.length c, .int .i64 mo, .int .i64 ap, .int .i64 ra, .int .i64 wi]] w fun e w' =>
      e = .returned (.string ⟨(lineL al pf mo ap ra wi).toArray⟩) ∧ Below w.heap.size w w' := by
  obtain ⟨m1, ⟨m2, m2'⟩, ⟨m3, m3'⟩, ⟨m4, m4'⟩, ⟨m5, m5'⟩⟩ := mayB_bd hm
  clear hm
  have HB := Lib.hid hb
  clear hb
  have l1 := itoa_len m2 (by omega)
  have l2 := itoa_len m3 (by omega)
  have l3 := itoa_len m4 (by omega)
  have l4 := itoa_len m5 m5'
  have s1 : (lineA al pf).length ≤ 150 := by
    have l5 : (hexL pf).length ≤ 128 := by rw [hexL_length]; omega
    have f1 : (if al = true then kAllow else kDeny).length ≤ 5 := by cases al <;> decide
    have f2 : (if 0 < pf.length then kPrefix ++ hexL pf else []).length ≤ 136 := by split <;> simp [kPrefix]; omega
    unfold lineA; rw [List.length_append]; omega
  have s2 : (lineB al pf mo).length ≤ 170 := by
    have f5 : kMost.length = 6 := rfl
    unfold lineB; rw [List.length_append, List.length_append]; omega
  have s3 : (lineC al pf mo ap).length ≤ 200 := by
    have f3 : (if 0 < ap then kAppr ++ Lib.itoa ap else []).length ≤ 21 := by split <;> simp [kAppr]; omega
    unfold lineC; rw [List.length_append]; omega
  have hbx := Lib.hid (Box.mk0 w al A pf.length c mo ap ra wi 35)
  have hbb := Lib.hid (boxed w (.cells #[.bool al, .slice A pf.length c, .int .i64 mo, .int .i64 ap, .int .i64 ra, .int .i64 wi] 35))
  go_enter Tryd.func16, Tryd.ntmps16
  go_upto_if 6 with fail
  go_cut [3] (fun s wx => s = .string ⟨(if al then kAllow else kDeny).toArray⟩ ∧ Box wx w.heap.size al A pf.length c mo ap ra wi ∧ Below w.heap.size w wx)
  case first =>
    cases al
    all_goals
      go_wp2_with fail
      go_meet
    · exact ⟨rfl, hbx.out, hbb.out⟩
    · exact ⟨rfl, hbx.out, hbb.out⟩
  case rest =>
    clear hbx hbb
    obtain ⟨rfl, hbx, hbb⟩ := hcut
    have hbx := Lib.hid hbx
    obtain ⟨c0, c1, c2, c3, c4, c5⟩ := hbx.out
    have hbb := Lib.hid hbb
    have f1 : (if al = true then kAllow else kDeny).length ≤ 5 := by cases al <;> decide
    go_upto_if 10 with fail
    go_cut [3, 4] (fun s _ wx => s = .string ⟨(lineA al pf).toArray⟩ ∧ Box wx w.heap.size al A pf.length c mo ap ra wi ∧ Below w.heap.size w wx)
    case first =>
      generalize hfa : (if al = true then kAllow else kDeny) = fa at f1
      have hfa := Lib.hid hfa
      rcases Nat.eq_zero_or_pos pf.length with hp | hp
      · go_wp2_with fail
        go_meet
        exact ⟨str_val (by simp [lineA, hfa.out, hp]), hbx.out, hbb.out⟩
      · have hdp : decide (0 < pf.length) = true := decide_eq_true hp
        rw [hdp]
        clear hdp
        go_wp2_with fail
        obtain ⟨wo, rfl⟩ : ∃ wo : World, wo = wc := ⟨_, rfl⟩
        go_loopw [3, 4] (fun s i wr => ∃ k : Nat, k ≤ pf.length ∧ i = .int .i64 k ∧ s = .string ⟨(fa ++ kPrefix ++ hexL (pf.take k)).toArray⟩ ∧ Box wr w.heap.size al A pf.length c mo ap ra wi ∧ Below w.heap.size w wr) (fun _ i _ => pf.length - (intOf i).toNat)
        case atStart => exact ⟨0, Nat.zero_le _, rfl, str_val (by simp [kPrefix, hexL]), hbx.out, hbb.out⟩
        case round =>
          clear hbx hbb c0 c1 c2 c3 c4 c5
          obtain ⟨k, hk, rfl, rfl, hbx, hbb⟩ := hrel
          have hbx := Lib.hid hbx
          obtain ⟨c0, c1, c2, c3, c4, c5⟩ := hbx.out
          have hL : (fa ++ kPrefix ++ hexL (pf.take k)).length ≤ 200 := by
            have e1 : kPrefix.length = 8 := rfl
            rw [List.length_append, List.length_append, hexL_length, List.length_take]; omega
          generalize hLe : fa ++ kPrefix ++ hexL (pf.take k) = L at hL
          have hLe := Lib.hid hLe
          by_cases hlt : k < pf.length
          · obtain ⟨b, o, rfl, H⟩ := HB.out (by omega)
            have x1 := cell_on hbb (H k hlt)
            have hs := Lib.hid (hexL_take_succ hlt)
            clear H HB
            have hbb := Lib.hid hbb
            have q1 : ¬ (9223372036854775807 < L.length + 2) := by omega
            have hs2 : fa ++ kPrefix ++ hexL (pf.take (k + 1)) = L ++ hexD (pf.getD k 0) := by rw [hs.out, ← List.append_assoc, hLe.out]
            clear hs
            have hs := Lib.hid hs2
            clear hs2
            generalize pf.getD k 0 = x at x1 hs
            have hx := nb_bd x
            have d1 := dig_hi x
            have d2 := dig_lo x
            have d3 := conv_two
            have t1 : (nb x).tdiv 16 = nb x / 16 := Int.tdiv_eq_ediv_of_nonneg hx.1
            have t2 : (nb x).tmod 16 = nb x % 16 := Int.tmod_eq_emod_of_nonneg hx.1
            have t3 : IntKind.u8.wrap (nb x / 16) = nb x / 16 := by rw [IntKind.wrap_u8]; omega
            have t4 : IntKind.u8.wrap (nb x % 16) = nb x % 16 := by rw [IntKind.wrap_u8]; omega
            have k1 : (k : Int) < (pf.length : Int) := by omega
            have k0 : (0 : Int) ≤ (k : Int) := by omega
            go_wp2
            go_region
            all_goals
              clear hbx c0 c1 c2 c3 c4 c5 x1 d1 d2 d3 t1 t2 t3 t4
              have hbb2 := Lib.hid ((later hbb.out (boxed wr (.cells #[B8 (dg16[x.toNat / 16]?.getD 0), B8 (dg16[x.toNat % 16]?.getD 0)] 5))).drew)
              have hbx2 := Lib.hid (hbx.on (boxed wr (.cells #[B8 (dg16[x.toNat / 16]?.getD 0), B8 (dg16[x.toNat % 16]?.getD 0)] 5)).drew)
              clear hbx
              go_wp2
              go_roundw
              case rel =>
                refine ⟨k + 1, by omega, by go_num, ?_, hbx2.out, hbb2.out⟩
                rw [hs.out]
                exact str_val (by simp [hexD])
              case measure => simp [intOf]; omega
          · have : k = pf.length := by omega
            subst this
            have hLe := hLe.out
            rw [List.take_length] at hLe
            have hLe := Lib.hid hLe
            go_wp2_with fail
            go_meet
            exact ⟨by rw [← hLe.out, ← hfa.out]; simp [lineA, hp], hbx.out, hbb⟩
    case rest =>
      clear hbx hbb f1 c0 c1 c2 c3 c4 c5
      obtain ⟨rfl, hbx, hbb⟩ := hcut
      have hbx := Lib.hid hbx
      obtain ⟨c0, c1, c2, c3, c4, c5⟩ := hbx.out
      have hbb := Lib.hid hbb
      go_wp2_with fail
      refine (refdec_int mo (by omega) (by omega) _).mono ?_
      rintro e w2 ⟨rfl, b1⟩
      have hbx := Lib.hid (hbx.out.on b1)
      have hbb := Lib.hid (later hbb.out b1)
      clear c0 c1 c2 c3 c4 c5
      obtain ⟨c0, c1, c2, c3, c4, c5⟩ := hbx.out
      clear b1
      go_upto_if 46 with fail
      go_cut [3] (fun s wx => s = .string ⟨(lineC al pf mo ap).toArray⟩ ∧ Box wx w.heap.size al A pf.length c mo ap ra wi ∧ Below w.heap.size w wx)
      case first =>
        rcases Int.lt_or_le 0 ap with ha | ha
        · go_wp2_with fail
          refine (refdec_int ap (by omega) (by omega) _).mono ?_
          rintro e w3 ⟨rfl, b1⟩
          have hbx := Lib.hid (hbx.out.on b1)
          have hbb := Lib.hid (later hbb.out b1)
          clear b1
          go_wp2_with fail
          go_meet
          exact ⟨str_val (by simp [lineC, lineB, kMost, kAppr, ha]), hbx.out, hbb.out⟩
        · go_wp2_with fail
          go_meet
          exact ⟨str_val (by simp [lineC, lineB, kMost, Int.not_lt.2 ha]), hbx.out, hbb.out⟩
      case rest =>
        clear hbx hbb c0 c1 c2 c3 c4 c5
        obtain ⟨rfl, hbx, hbb⟩ := hcut
        have hbx := Lib.hid hbx
        obtain ⟨c0, c1, c2, c3, c4, c5⟩ := hbx.out
        rcases Int.lt_or_le 0 ra with hr | hr
        · generalize hLc : lineC al pf mo ap = L at s3 ⊢
          have hLc := Lib.hid hLc
          have q1 : ¬ (9223372036854775807 < L.length + 6) := by omega
          have q2 : ¬ (9223372036854775807 < L.length + 6 + (Lib.itoa ra).length) := by omega
          have q3 : ¬ (9223372036854775807 < L.length + 6 + (Lib.itoa ra).length + 8) := by omega
          have q4 : ¬ (9223372036854775807 < L.length + 6 + (Lib.itoa ra).length + 8 + (Lib.itoa wi).length) := by omega
          go_wp2_with fail
          go_region_held3 (fun w' => w'.cell? ⟨w.heap.size, 4, none⟩ = some (.int .i64 ra) ∧ w'.cell? ⟨w.heap.size, 5, none⟩ = some (.int .i64 wi) ∧ Below w.heap.size w w')
            (first | ((try dsimp only); exact ⟨c4, c5, hbb.drew⟩) | (go_split_ands; exact keepS (by assumption) ⟨by assumption, by assumption, by assumption⟩))
            ((go_at_call 26; go_split_ands; refine (refdec_int _ ?_ ?_ _).mono ?_; (omega); (omega); rintro e w' ⟨rfl, hb'⟩))
          all_goals
            go_split_ands
            go_wp2
            go_ret
            refine ⟨?_, by assumption⟩
            show Ending.returned (Value.string _) = _
            rw [lineL_eq, if_pos hr, hLc.out, ← str_val (b := L ++ (kRate ++ Lib.itoa ra ++ kWindow ++ Lib.itoa wi)) ?_]
            simp [kRate, kWindow]
        · go_wp2
          go_ret
          exact ⟨str_eq (by rw [lineL_eq, if_neg (by omega), List.append_nil]), hbb⟩
end Go.Proofs.YtabinbeohecebaaDoor
