/- Wire: the body of a message with a list and a text. (Printed by gen_body.py three.) -/
import Derived.Test.YtmnmmabhmedioaaDoorM8
import Derived.Test.YtmnmmabhmedioaaDoorM7
namespace Go.Proofs.YtmnmmabhmedioaaDoor
open Go.RowKit
set_option linter.unusedVariables false
set_option linter.unusedSimpArgs false
set_option maxRecDepth 100000

theorem pairA_one (p : Pair) : (pairA p).all (·.oneCell') = true := by
  refine Array.all_eq_true_iff_forall_mem.2 fun v hv => ?_
  simp only [pairA, arrB, Array.mem_append] at hv
  rcases hv with (hv | hv) | hv
  · simp at hv; subst hv; rfl
  · simp at hv; obtain ⟨x, _, rfl⟩ := hv; rfl
  · simp at hv; obtain ⟨x, _, rfl⟩ := hv; rfl
theorem idsOk {m : Msg} (h : listBad 0 m.list = none) : ∀ j, j < m.list.length → isId (m.list.getD j Pair.zero).id = true := listBad_none m.list 0 h
set_option maxHeartbeats 16000000 in
theorem body_3 (cs : Array Value) (m : Msg) (LA : Option Addr) (lc : Nat) (TA : Option Addr) (tc : Nat) (w : World) (hM : MsgIn w cs m LA lc TA tc) (hk : m.kind = 3) (f0 : 0 ≤ m.from_) (f1 : m.from_ ≤ 255) (t0 : 0 ≤ m.to_) (t1 : m.to_ ≤ 255) (hll : m.list.length ≤ 255) (hids : listBad 0 m.list = none) (htl : m.text.length ≤ 1048575) : Calls Tryd.prog 52 #[.agg cs] w (Body w (bodyM m).length (bodyM m)) := by
  replace hids := Lib.hid (idsOk hids)
  obtain ⟨i0, hi0, hz0, hz1, hz2⟩ := info_parts inf5
  have hX := heap_alloc_new w (.cells cs 36)
  have hB := boxed w (.cells cs 36)
  have hs : (w.alloc (.cells cs 36)).heap.size = w.heap.size + 1 := by simp
  have hC := hM.cells
  have hl := hC.session.1
  go_enter Tryd.func52, Tryd.ntmps52
  go_upto_region 1 with fail
  generalize w.alloc (.cells cs 36) = w1 at hX hB hs ⊢
  have k0 : w1.cell? ⟨w.heap.size, 0, none⟩ = some (.int .i64 3) := by rw [← hk]; exact cell_of hX hC.kind
  have k33 : w1.cell? ⟨w.heap.size, 33, none⟩ = some (.int .i64 m.from_) := cell_of hX hC.from_
  have k34 : w1.cell? ⟨w.heap.size, 34, none⟩ = some (.int .i64 m.to_) := cell_of hX hC.to_
  have hS := Lib.hid (hC.session.bs hX)
  replace hX := Lib.hid hX
  replace hB := Lib.hid hB
  replace hC := Lib.hid hC
  replace hM := Lib.hid hM
  go_wp2_with fail
  refine (need_same _ _ _ _).mono ?_
  rintro e w' ⟨rfl, rfl⟩
  go_wp2_with fail
  refine (need_same _ _ _ _).mono ?_
  rintro e w' ⟨rfl, rfl⟩
  go_wp2_with fail
  refine (need_same _ _ _ _).mono ?_
  rintro e w' ⟨rfl, rfl⟩
  go_wp2_with (at_builtin; go_must (refine wpList_append_bs _ rfl _ _ 22 rfl (w.heap.size + 1) i0 Tryd.underlying22 hi0 hz0 hz1 hz2 none 0 0 [] rfl rfl (OwnB.nil _ _) (some ⟨w.heap.size, 1, none⟩) 32 32 m.session hl rfl hS.out ?q1a ?q1b ?_))
  case q1a => simp; omega
  case q1b => omega
  intro A2 c2 w2 hO2 hg2 hat2
  have hX2 := grew_box (OwnB.nil w' (w.heap.size + 1)) hg2 hX.out (by decide)
  have hB2 := Lib.hid (below_grew hB.out (OwnB.nil w' (w.heap.size + 1)) (by omega) (by omega) hg2)
  have k33 : w2.cell? ⟨w.heap.size, 33, none⟩ = some (.int .i64 m.from_) := cell_of hX2 hC.out.from_
  have k34 : w2.cell? ⟨w.heap.size, 34, none⟩ = some (.int .i64 m.to_) := cell_of hX2 hC.out.to_
  replace hX2 := Lib.hid hX2
  have hs2 : w.heap.size < w2.heap.size := heap_lt hX2.out
  have e1 := nb_u8 f0
  have e2 := nb_u8 t0
  have e3 : m.from_ % 256 = m.from_ := by omega
  have e4 : m.to_ % 256 = m.to_ := by omega
  rw [e3] at e1
  rw [e4] at e2
  have hb2 := Bs.two w2 (u8 m.from_) (u8 m.to_) 5
  rw [e1, e2] at hb2
  replace hb2 := Lib.hid hb2
  replace hO2 := Lib.hid hO2
  replace e1 := Lib.hid e1
  replace e2 := Lib.hid e2
  clear hg2 hat2 hX hB hS k0
  go_wp2_with (at_builtin; go_must (refine wpList_append_bs _ rfl _ _ 22 rfl (w.heap.size + 1) i0 Tryd.underlying22 hi0 hz0 hz1 hz2 A2 32 c2 m.session hl rfl (hO2.out.on (boxed _ _)) (some ⟨w2.heap.size, 0, none⟩) 2 2 [u8 m.from_, u8 m.to_] rfl rfl hb2.out ?q2a ?q2b ?_))
  case q2a => simp; omega
  case q2b => simp; omega
  intro A3 c3 w3 hO3 hg3 hat3
  have hX3 := grew_box (hO2.out.on (boxed _ _)) hg3 (heap_on (boxed _ _) hX2.out) (by decide)
  have hB3 := Lib.hid (below_grew (later' hB2.out (boxed _ _)) (hO2.out.on (boxed _ _)) (by omega) (by simp; omega) hg3)
  have k0 : w3.cell? ⟨w.heap.size, 0, none⟩ = some (.int .i64 3) := by rw [← hk]; exact cell_of hX3 hC.out.kind
  replace hX3 := Lib.hid hX3
  replace hO3 := Lib.hid hO3
  have hs3 : w.heap.size < w3.heap.size := heap_lt hX3.out
  have hl3 : (m.session ++ [u8 m.from_, u8 m.to_]).length = 34 := by simp [hl]
  have hr3 : Hid (bodyM m = m.session ++ [u8 m.from_, u8 m.to_] ++ restM m) := Lib.hid rfl
  generalize m.session ++ [u8 m.from_, u8 m.to_] = P at hO3 hl3 hr3 ⊢
  clear hg3 hat3 hb2 hO2 hX2 hB2 hs2
  have k100 : w3.cell? ⟨w.heap.size, 100, none⟩ = some (.slice LA m.list.length lc) := cell_of hX3.out hC.out.list
  have k101 : w3.cell? ⟨w.heap.size, 101, none⟩ = some (.slice TA m.text.length tc) := cell_of hX3.out hC.out.text
  go_wp2_with fail
  refine (need_dec (by omega) _ _ _ _).mono ?_
  rintro e w3 ⟨rfl, rfl⟩
  have hb3 := Bs.one w3 (UInt8.ofNat m.list.length) 5
  rw [show nb (UInt8.ofNat m.list.length) = (m.list.length : Int) from by rw [b8_of]; omega] at hb3
  replace hb3 := Lib.hid hb3
  go_wp2_with (at_builtin; go_must (refine wpList_append_bs _ rfl _ _ 22 rfl (w.heap.size + 1) i0 Tryd.underlying22 hi0 hz0 hz1 hz2 A3 34 c3 P hl3 rfl (hO3.out.on (boxed _ _)) (some ⟨w3.heap.size, 0, none⟩) 1 1 [UInt8.ofNat m.list.length] rfl rfl hb3.out ?q3a ?q3b ?_))
  case q3a => simp [hl3]
  case q3b => simp; omega
  intro A4 c4 w4 hO4 hg4 hat4
  have hX4 := grew_box (hO3.out.on (boxed _ _)) hg4 (heap_on (boxed _ _) hX3.out) (by decide)
  have hB4 := Lib.hid (below_grew (later' hB3.out (boxed _ _)) (hO3.out.on (boxed _ _)) (by omega) (by simp; omega) hg4)
  have k100 : w4.cell? ⟨w.heap.size, 100, none⟩ = some (.slice LA m.list.length lc) := cell_of hX4 hC.out.list
  replace hX4 := Lib.hid hX4
  replace hO4 := Lib.hid hO4
  have hs4 : w.heap.size < w4.heap.size := heap_lt hX4.out
  clear hg4 hat4 hb3 hO3 hX3 hB3
  have hPl := hM.out.pok
  replace hPl := Lib.hid hPl
  have hrel0 : Hid (OwnB w4 (w.heap.size + 1) A4 c4 (P ++ UInt8.ofNat m.list.length :: pairsL (m.list.take 0))) := Lib.hid (by simpa [pairsL] using hO4.out)
  have hpl : Hid (∀ k, k ≤ m.list.length → (pairsL (m.list.take k)).length = 65 * k) := Lib.hid fun k hk => by
    rw [pairsL_len (fun i => ?_), List.length_take, Nat.min_eq_left hk]
    rw [List.getD_eq_getElem?_getD, List.getElem?_take]
    split
    · exact hPl.out i
    · exact pair0_ok
  have hzs : Tryd.zeroCells29.size = 65 := by kernel_rfl
  replace hzs := Lib.hid hzs
  go_wp2_with fail
  go_loopw [3, 75] (fun s i wr => ∃ (k : Nat) (A : Option Addr) (c : Nat), k ≤ m.list.length ∧ i = .int .i64 k ∧ s = .slice A (35 + 65 * k) c ∧ Hid (OwnB wr (w.heap.size + 1) A c (P ++ UInt8.ofNat m.list.length :: pairsL (m.list.take k))) ∧ Hid (wr.heap[w.heap.size]? = some (.cells cs 36 (0, 0))) ∧ Hid (Below w.heap.size w wr)) (fun _ i _ => m.list.length - (intOf i).toNat)
  case atStart => exact ⟨0, A4, c4, Nat.zero_le _, rfl, rfl, hrel0, hX4, hB4⟩
  case round =>
    obtain ⟨k, Ar, cr, hk1, rfl, rfl, hOr, hXr, hBr⟩ := hrel
    clear hX4 hB4 hO4 hs4 hrel0 k100 k101 k0
    have hsr : w.heap.size < wr.heap.size := heap_lt hXr.out
    rcases Nat.lt_or_ge k m.list.length with hlt | hge
    · obtain ⟨b, o, rfl, hc⟩ := hM.out.list (by omega)
      have hRA := Lib.hid ((hc k hlt).on hBr.out)
      clear hc
      have q1 : (0 : Int) ≤ (k : Int) := by omega
      have q2 : (k : Int) < (m.list.length : Int) := by omega
      have hpk := Lib.hid (hPl.out k)
      have hidk := Lib.hid (hids.out k hlt)
      have hts := Lib.hid (pairsL_take_succ hlt)
      have hlk : Hid ((P ++ UInt8.ofNat m.list.length :: pairsL (m.list.take k)).length = 35 + 65 * k) := Lib.hid (by
        have := hpl.out k hk1
        simp [hl3] at this ⊢
        omega)
      generalize m.list.getD k Pair.zero = pk at hRA hpk hidk hts
      have hifP : (Tryd.prog.info? 29).map (·.size) = some (pairA pk).size := by rw [pairA_size hpk.out]; kernel_rfl
      have hzc : Tryd.zeroCells29.size = (pairA pk).size := by rw [pairA_size hpk.out]; exact hzs.out
      have hone : (pairA pk).all (·.oneCell') = true := pairA_one pk
      have hz := Lib.hid (heap_alloc_new wr (.cells Tryd.zeroCells29 29))
      have hrow : (wr.alloc (.cells Tryd.zeroCells29 29)).setRow wr.heap.size (pairA pk) = wr.alloc (.cells (pairA pk) 29) := World.setRow_alloc_new _ _ _ _
      replace hrow := Lib.hid hrow
      go_upto_region 16 with (first | (refine wpList_loadM _ rfl _ _ rfl b (o + k * 65) rfl (pairA pk) hRA.out _ Tryd.underlying29 rfl hifP ?_) | (refine wpList_storeW _ rfl _ _ _ rfl wr.heap.size (pairA pk) rfl rfl _ _ hz.out hifP hzc hone ?_))
      rw [hrow.out]
      have hP5 := heap_alloc_new wr (.cells (pairA pk) 29)
      have hX5 := Lib.hid (heap_on (boxed wr (.cells (pairA pk) 29)) hXr.out)
      have hB5 := Lib.hid (later' hBr.out (boxed wr (.cells (pairA pk) 29)))
      have hO5 := Lib.hid (hOr.out.on (boxed wr (.cells (pairA pk) 29)))
      have hs5 : (wr.alloc (.cells (pairA pk) 29)).heap.size = wr.heap.size + 1 := by simp
      clear hrow hz hOr hXr hBr hRA hzc hone
      generalize wr.alloc (.cells (pairA pk) 29) = w5 at hP5 hX5 hB5 hO5 hs5 ⊢
      have kid : w5.cell? ⟨wr.heap.size, 0, none⟩ = some (.int .i64 pk.id) := cell_of hP5 (pairA_get0 pk)
      have hR5 := Lib.hid (rowAt_pair hP5)
      clear hP5
      obtain ⟨p1, p2⟩ := isId_true.1 hidk.out
      go_wp2_with fail
      refine (isID_any _ _).mono ?_
      rintro e w' ⟨rfl, rfl⟩
      rw [hidk.out]
      go_wp2_with fail
      refine (need_same _ _ _ _).mono ?_
      rintro e w5 ⟨rfl, rfl⟩
      go_wp2_with (refine wpList_loadM _ rfl _ _ rfl wr.heap.size 0 rfl (pairA pk) hR5.out _ Tryd.underlying29 rfl hifP ?_)
      refine (putPair_any (w.heap.size + 1) Ar (35 + 65 * k) cr _ pk _ hpk.out (by omega) (by omega) hO5.out hlk.out (by omega) (by omega)).mono ?_
      rintro e w6 ⟨A6, c6, rfl, hO6, hB6, hT6⟩
      have hX6 := hT6 _ cs 36 _ hX5.out (by decide)
      have hB16 := Lib.hid (hB5.out.trans (hB6.mono (by omega)))
      replace hX6 := Lib.hid hX6
      have hO66 : OwnB w6 (w.heap.size + 1) A6 c6 (P ++ UInt8.ofNat m.list.length :: pairsL (m.list.take (k + 1))) := by
        rw [hts.out]
        simpa using hO6
      replace hO66 := Lib.hid hO66
      clear hT6 hB6 hO6 hR5 kid
      go_wp2_with fail
      exact ⟨⟨k + 1, A6, c6, by omega, by go_num, by congr 1, hO66, hX6, hB16⟩, by simp [intOf]; omega⟩
    · have : k = m.list.length := by omega
      subst this
      clear hk1 hge
      have hfull := hpl.out m.list.length (Nat.le_refl _)
      rw [List.take_length] at hOr hfull
      have k101 : wr.cell? ⟨w.heap.size, 101, none⟩ = some (.slice TA m.text.length tc) := cell_of hXr.out hC.out.text
      have hlk : Hid ((P ++ UInt8.ofNat m.list.length :: pairsL m.list).length = 35 + 65 * m.list.length) := Lib.hid (by
        simp [hl3]
        omega)
      have hrest : Hid (restM m = UInt8.ofNat m.list.length :: pairsL m.list ++ four m.text.length ++ m.text) := Lib.hid (by simp [restM, hk])
      generalize pairsL m.list = ps at hOr hlk hrest
      go_wp2_with fail
      refine (need_dec (by omega) _ _ _ _).mono ?_
      rintro e wr ⟨rfl, rfl⟩
      go_wp2_with fail
      refine (highest4 m.text.length (by omega) _).mono ?_
      rintro e w5 ⟨rfl, hO5, hB5⟩
      have hbs5 := Lib.hid hO5.bs
      have hOr5 := Lib.hid (hOr.out.on hB5)
      have hX5 := Lib.hid (heap_on hB5 hXr.out)
      have hB05 := Lib.hid (later' hBr.out hB5)
      have hs5 : w.heap.size < w5.heap.size := heap_lt hX5.out
      clear hO5 hB5 hOr hXr hBr k101
      go_wp2_with (at_builtin; go_must (refine wpList_append_bs _ rfl _ _ 22 rfl (w.heap.size + 1) i0 Tryd.underlying22 hi0 hz0 hz1 hz2 Ar (35 + 65 * m.list.length) cr (P ++ UInt8.ofNat m.list.length :: ps) hlk.out rfl hOr5.out _ 4 4 (four m.text.length) rfl rfl hbs5.out ?q5a ?q5b ?_))
      case q5a => have := hlk.out; simp [four] at this ⊢; omega
      case q5b => omega
      intro A6 c6 w6 hO6 hg6 hat6
      have hX6 := grew_box hOr5.out hg6 hX5.out (by decide)
      have hB6 := Lib.hid (below_grew hB05.out hOr5.out (by omega) (by omega) hg6)
      have k101 : w6.cell? ⟨w.heap.size, 101, none⟩ = some (.slice TA m.text.length tc) := cell_of hX6 hC.out.text
      have htx := Lib.hid (hM.out.text.on hB6.out)
      have hs6 : w.heap.size < w6.heap.size := heap_lt hX6
      replace hX6 := Lib.hid hX6
      have hO6 : OwnB w6 (w.heap.size + 1) A6 c6 (P ++ (UInt8.ofNat m.list.length :: (ps ++ four m.text.length))) := by simpa using hO6
      replace hO6 := Lib.hid hO6
      have hlk6 : Hid ((P ++ (UInt8.ofNat m.list.length :: (ps ++ four m.text.length))).length = 39 + 65 * m.list.length) := Lib.hid (by
        have := hlk.out
        simp [four] at this ⊢
        omega)
      clear hg6 hat6 hOr5 hX5 hB05 hbs5
      rw [show 35 + 65 * m.list.length + 4 = 39 + 65 * m.list.length from by omega]
      go_wp2_with (at_builtin; go_must (refine wpList_append_bs _ rfl _ _ 22 rfl (w.heap.size + 1) i0 Tryd.underlying22 hi0 hz0 hz1 hz2 A6 (39 + 65 * m.list.length) c6 (P ++ (UInt8.ofNat m.list.length :: (ps ++ four m.text.length))) hlk6.out rfl hO6.out TA m.text.length tc m.text rfl rfl htx.out ?q6a ?q6b ?_))
      case q6a => have := hlk6.out; rw [this]; omega
      case q6b => omega
      intro A7 c7 w7 hO7 hg7 hat7
      have hB7 := Lib.hid (below_grew hB6.out hO6.out (by omega) (by omega) hg7)
      have hlen : (bodyM m).length = 39 + 65 * m.list.length + m.text.length := by
        rw [hr3.out, hrest.out]
        have := hlk6.out
        simp [four, hl3] at this ⊢
        omega
      replace hO7 := Lib.hid hO7
      clear hg7 hat7 hO6
      go_wp2_with fail
      go_ret
      refine ⟨A7, c7, (congrArg (fun k => Ending.returned (Value.slice A7 k c7)) hlen).symm, ?_, hB7.out⟩
      have h := OwnB.lower (B := w.heap.size) hO7.out (Nat.le_succ _)
      rw [hr3.out, hrest.out]
      simpa [List.append_assoc] using h
end Go.Proofs.YtmnmmabhmedioaaDoor
/- Wire: a message that may not be: the body's faults. (Printed by gen_body.py bads.) -/
namespace Go.Proofs.YtmnmmabhmedioaaDoor
open Go.RowKit
set_option linter.unusedVariables false
set_option linter.unusedSimpArgs false
set_option maxRecDepth 100000

set_option maxHeartbeats 8000000 in
theorem bad_kind1 (cs : Array Value) (m : Msg) (LA : Option Addr) (lc : Nat) (TA : Option Addr) (tc : Nat) (w : World) (hM : MsgIn w cs m LA lc TA tc) (h : m.kind < 1) : Calls Tryd.prog 52 #[.agg cs] w fun e w' => ∃ b, e = Threw b ∧ w.heap.size ≤ b ∧ FaultAt w' b ⟨kKind, 0, 152⟩ ∧ Below w.heap.size w w' := by
  have hX := heap_alloc_new w (.cells cs 36)
  have hB := boxed w (.cells cs 36)
  have hs : (w.alloc (.cells cs 36)).heap.size = w.heap.size + 1 := by simp
  have hC := hM.cells
  go_enter Tryd.func52, Tryd.ntmps52
  go_upto_region 1 with fail
  generalize w.alloc (.cells cs 36) = w1 at hX hB hs ⊢
  have k0 : w1.cell? ⟨w.heap.size, 0, none⟩ = some (.int .i64 m.kind) := cell_of hX hC.kind
  have k33 : w1.cell? ⟨w.heap.size, 33, none⟩ = some (.int .i64 m.from_) := cell_of hX hC.from_
  have k34 : w1.cell? ⟨w.heap.size, 34, none⟩ = some (.int .i64 m.to_) := cell_of hX hC.to_
  replace hX := Lib.hid hX
  replace hB := Lib.hid hB
  replace hC := Lib.hid hC
  replace hM := Lib.hid hM
  go_wp2_with fail
  refine (need_false kKind 0 152 _).mono ?_
  rintro e w2 ⟨q, rfl, hq, hF, hB2⟩
  have hB3 := Lib.hid (later' hB.out hB2)
  replace hF := Lib.hid hF
  clear hB hB2
  go_wp2_with fail
  exact ⟨rfl, q, rfl, by omega, hF.out, hB3.out⟩
set_option maxHeartbeats 8000000 in
theorem bad_kind2 (cs : Array Value) (m : Msg) (LA : Option Addr) (lc : Nat) (TA : Option Addr) (tc : Nat) (w : World) (hM : MsgIn w cs m LA lc TA tc) (h : ¬ m.kind ≤ 6) : Calls Tryd.prog 52 #[.agg cs] w fun e w' => ∃ b, e = Threw b ∧ w.heap.size ≤ b ∧ FaultAt w' b ⟨kKind, 0, 152⟩ ∧ Below w.heap.size w w' := by
  have hX := heap_alloc_new w (.cells cs 36)
  have hB := boxed w (.cells cs 36)
  have hs : (w.alloc (.cells cs 36)).heap.size = w.heap.size + 1 := by simp
  have hC := hM.cells
  go_enter Tryd.func52, Tryd.ntmps52
  go_upto_region 1 with fail
  generalize w.alloc (.cells cs 36) = w1 at hX hB hs ⊢
  have k0 : w1.cell? ⟨w.heap.size, 0, none⟩ = some (.int .i64 m.kind) := cell_of hX hC.kind
  have k33 : w1.cell? ⟨w.heap.size, 33, none⟩ = some (.int .i64 m.from_) := cell_of hX hC.from_
  have k34 : w1.cell? ⟨w.heap.size, 34, none⟩ = some (.int .i64 m.to_) := cell_of hX hC.to_
  replace hX := Lib.hid hX
  replace hB := Lib.hid hB
  replace hC := Lib.hid hC
  replace hM := Lib.hid hM
  go_wp2_with fail
  refine (need_false kKind 0 152 _).mono ?_
  rintro e w2 ⟨q, rfl, hq, hF, hB2⟩
  have hB3 := Lib.hid (later' hB.out hB2)
  replace hF := Lib.hid hF
  clear hB hB2
  go_wp2_with fail
  exact ⟨rfl, q, rfl, by omega, hF.out, hB3.out⟩
set_option maxHeartbeats 8000000 in
theorem bad_from1 (cs : Array Value) (m : Msg) (LA : Option Addr) (lc : Nat) (TA : Option Addr) (tc : Nat) (w : World) (hM : MsgIn w cs m LA lc TA tc) (k1 : 1 ≤ m.kind) (k6 : m.kind ≤ 6) (h : m.from_ < 0) : Calls Tryd.prog 52 #[.agg cs] w fun e w' => ∃ b, e = Threw b ∧ w.heap.size ≤ b ∧ FaultAt w' b ⟨kFrom, 0, 4⟩ ∧ Below w.heap.size w w' := by
  have hX := heap_alloc_new w (.cells cs 36)
  have hB := boxed w (.cells cs 36)
  have hs : (w.alloc (.cells cs 36)).heap.size = w.heap.size + 1 := by simp
  have hC := hM.cells
  go_enter Tryd.func52, Tryd.ntmps52
  go_upto_region 1 with fail
  generalize w.alloc (.cells cs 36) = w1 at hX hB hs ⊢
  have k0 : w1.cell? ⟨w.heap.size, 0, none⟩ = some (.int .i64 m.kind) := cell_of hX hC.kind
  have k33 : w1.cell? ⟨w.heap.size, 33, none⟩ = some (.int .i64 m.from_) := cell_of hX hC.from_
  have k34 : w1.cell? ⟨w.heap.size, 34, none⟩ = some (.int .i64 m.to_) := cell_of hX hC.to_
  replace hX := Lib.hid hX
  replace hB := Lib.hid hB
  replace hC := Lib.hid hC
  replace hM := Lib.hid hM
  go_wp2_with fail
  refine (need_same _ _ _ _).mono ?_
  rintro e w' ⟨rfl, rfl⟩
  go_wp2_with fail
  refine (need_false kFrom 0 4 _).mono ?_
  rintro e w2 ⟨q, rfl, hq, hF, hB2⟩
  have hB3 := Lib.hid (later' hB.out hB2)
  replace hF := Lib.hid hF
  clear hB hB2
  go_wp2_with fail
  exact ⟨rfl, q, rfl, by omega, hF.out, hB3.out⟩
set_option maxHeartbeats 8000000 in
theorem bad_from2 (cs : Array Value) (m : Msg) (LA : Option Addr) (lc : Nat) (TA : Option Addr) (tc : Nat) (w : World) (hM : MsgIn w cs m LA lc TA tc) (k1 : 1 ≤ m.kind) (k6 : m.kind ≤ 6) (f0 : 0 ≤ m.from_) (h : ¬ m.from_ ≤ 255) : Calls Tryd.prog 52 #[.agg cs] w fun e w' => ∃ b, e = Threw b ∧ w.heap.size ≤ b ∧ FaultAt w' b ⟨kFrom, 0, 4⟩ ∧ Below w.heap.size w w' := by
  have hX := heap_alloc_new w (.cells cs 36)
  have hB := boxed w (.cells cs 36)
  have hs : (w.alloc (.cells cs 36)).heap.size = w.heap.size + 1 := by simp
  have hC := hM.cells
  go_enter Tryd.func52, Tryd.ntmps52
  go_upto_region 1 with fail
  generalize w.alloc (.cells cs 36) = w1 at hX hB hs ⊢
  have k0 : w1.cell? ⟨w.heap.size, 0, none⟩ = some (.int .i64 m.kind) := cell_of hX hC.kind
  have k33 : w1.cell? ⟨w.heap.size, 33, none⟩ = some (.int .i64 m.from_) := cell_of hX hC.from_
  have k34 : w1.cell? ⟨w.heap.size, 34, none⟩ = some (.int .i64 m.to_) := cell_of hX hC.to_
  replace hX := Lib.hid hX
  replace hB := Lib.hid hB
  replace hC := Lib.hid hC
  replace hM := Lib.hid hM
  go_wp2_with fail
  refine (need_same _ _ _ _).mono ?_
  rintro e w' ⟨rfl, rfl⟩
  go_wp2_with fail
  rw [decide_eq_false (by omega)]
  refine (need_false kFrom 0 4 _).mono ?_
  rintro e w2 ⟨q, rfl, hq, hF, hB2⟩
  have hB3 := Lib.hid (later' hB.out hB2)
  replace hF := Lib.hid hF
  clear hB hB2
  go_wp2_with fail
  exact ⟨rfl, q, rfl, by omega, hF.out, hB3.out⟩
set_option maxHeartbeats 8000000 in
theorem bad_to1 (cs : Array Value) (m : Msg) (LA : Option Addr) (lc : Nat) (TA : Option Addr) (tc : Nat) (w : World) (hM : MsgIn w cs m LA lc TA tc) (k1 : 1 ≤ m.kind) (k6 : m.kind ≤ 6) (f0 : 0 ≤ m.from_) (f1 : m.from_ ≤ 255) (h : m.to_ < 0) : Calls Tryd.prog 52 #[.agg cs] w fun e w' => ∃ b, e = Threw b ∧ w.heap.size ≤ b ∧ FaultAt w' b ⟨kTo, 0, 4⟩ ∧ Below w.heap.size w w' := by
  have hX := heap_alloc_new w (.cells cs 36)
  have hB := boxed w (.cells cs 36)
  have hs : (w.alloc (.cells cs 36)).heap.size = w.heap.size + 1 := by simp
  have hC := hM.cells
  go_enter Tryd.func52, Tryd.ntmps52
  go_upto_region 1 with fail
  generalize w.alloc (.cells cs 36) = w1 at hX hB hs ⊢
  have k0 : w1.cell? ⟨w.heap.size, 0, none⟩ = some (.int .i64 m.kind) := cell_of hX hC.kind
  have k33 : w1.cell? ⟨w.heap.size, 33, none⟩ = some (.int .i64 m.from_) := cell_of hX hC.from_
  have k34 : w1.cell? ⟨w.heap.size, 34, none⟩ = some (.int .i64 m.to_) := cell_of hX hC.to_
  replace hX := Lib.hid hX
  replace hB := Lib.hid hB
  replace hC := Lib.hid hC
  replace hM := Lib.hid hM
  go_wp2_with fail
  refine (need_same _ _ _ _).mono ?_
  rintro e w' ⟨rfl, rfl⟩
  go_wp2_with fail
  refine (need_same _ _ _ _).mono ?_
  rintro e w' ⟨rfl, rfl⟩
  go_wp2_with fail
  refine (need_false kTo 0 4 _).mono ?_
  rintro e w2 ⟨q, rfl, hq, hF, hB2⟩
  have hB3 := Lib.hid (later' hB.out hB2)
  replace hF := Lib.hid hF
  clear hB hB2
  go_wp2_with fail
  exact ⟨rfl, q, rfl, by omega, hF.out, hB3.out⟩
set_option maxHeartbeats 8000000 in
theorem bad_to2 (cs : Array Value) (m : Msg) (LA : Option Addr) (lc : Nat) (TA : Option Addr) (tc : Nat) (w : World) (hM : MsgIn w cs m LA lc TA tc) (k1 : 1 ≤ m.kind) (k6 : m.kind ≤ 6) (f0 : 0 ≤ m.from_) (f1 : m.from_ ≤ 255) (t0 : 0 ≤ m.to_) (h : ¬ m.to_ ≤ 255) : Calls Tryd.prog 52 #[.agg cs] w fun e w' => ∃ b, e = Threw b ∧ w.heap.size ≤ b ∧ FaultAt w' b ⟨kTo, 0, 4⟩ ∧ Below w.heap.size w w' := by
  have hX := heap_alloc_new w (.cells cs 36)
  have hB := boxed w (.cells cs 36)
  have hs : (w.alloc (.cells cs 36)).heap.size = w.heap.size + 1 := by simp
  have hC := hM.cells
  go_enter Tryd.func52, Tryd.ntmps52
  go_upto_region 1 with fail
  generalize w.alloc (.cells cs 36) = w1 at hX hB hs ⊢
  have k0 : w1.cell? ⟨w.heap.size, 0, none⟩ = some (.int .i64 m.kind) := cell_of hX hC.kind
  have k33 : w1.cell? ⟨w.heap.size, 33, none⟩ = some (.int .i64 m.from_) := cell_of hX hC.from_
  have k34 : w1.cell? ⟨w.heap.size, 34, none⟩ = some (.int .i64 m.to_) := cell_of hX hC.to_
  replace hX := Lib.hid hX
  replace hB := Lib.hid hB
  replace hC := Lib.hid hC
  replace hM := Lib.hid hM
  go_wp2_with fail
  refine (need_same _ _ _ _).mono ?_
  rintro e w' ⟨rfl, rfl⟩
  go_wp2_with fail
  refine (need_same _ _ _ _).mono ?_
  rintro e w' ⟨rfl, rfl⟩
  go_wp2_with fail
  rw [decide_eq_false (by omega)]
  refine (need_false kTo 0 4 _).mono ?_
  rintro e w2 ⟨q, rfl, hq, hF, hB2⟩
  have hB3 := Lib.hid (later' hB.out hB2)
  replace hF := Lib.hid hF
  clear hB hB2
  go_wp2_with fail
  exact ⟨rfl, q, rfl, by omega, hF.out, hB3.out⟩
set_option maxHeartbeats 8000000 in
theorem bad_pair2 (cs : Array Value) (m : Msg) (LA : Option Addr) (lc : Nat) (TA : Option Addr) (tc : Nat) (w : World) (hM : MsgIn w cs m LA lc TA tc) (hk : m.kind = 2) (f0 : 0 ≤ m.from_) (f1 : m.from_ ≤ 255) (t0 : 0 ≤ m.to_) (t1 : m.to_ ≤ 255) (hid : isId m.pair.id = false) : Calls Tryd.prog 52 #[.agg cs] w fun e w' => ∃ b, e = Threw b ∧ w.heap.size ≤ b ∧ FaultAt w' b ⟨kPair, 0, 4⟩ ∧ Below w.heap.size w w' := by
  obtain ⟨i0, hi0, hz0, hz1, hz2⟩ := info_parts inf5
  have hX := heap_alloc_new w (.cells cs 36)
  have hB := boxed w (.cells cs 36)
  have hs : (w.alloc (.cells cs 36)).heap.size = w.heap.size + 1 := by simp
  have hC := hM.cells
  have hl := hC.session.1
  go_enter Tryd.func52, Tryd.ntmps52
  go_upto_region 1 with fail
  generalize w.alloc (.cells cs 36) = w1 at hX hB hs ⊢
  have k0 : w1.cell? ⟨w.heap.size, 0, none⟩ = some (.int .i64 2) := by rw [← hk]; exact cell_of hX hC.kind
  have k33 : w1.cell? ⟨w.heap.size, 33, none⟩ = some (.int .i64 m.from_) := cell_of hX hC.from_
  have k34 : w1.cell? ⟨w.heap.size, 34, none⟩ = some (.int .i64 m.to_) := cell_of hX hC.to_
  have hS := Lib.hid (hC.session.bs hX)
  replace hX := Lib.hid hX
  replace hB := Lib.hid hB
  replace hC := Lib.hid hC
  replace hM := Lib.hid hM
  go_wp2_with fail
  refine (need_same _ _ _ _).mono ?_
  rintro e w' ⟨rfl, rfl⟩
  go_wp2_with fail
  refine (need_same _ _ _ _).mono ?_
  rintro e w' ⟨rfl, rfl⟩
  go_wp2_with fail
  refine (need_same _ _ _ _).mono ?_
  rintro e w' ⟨rfl, rfl⟩
  go_wp2_with (at_builtin; go_must (refine wpList_append_bs _ rfl _ _ 22 rfl (w.heap.size + 1) i0 Tryd.underlying22 hi0 hz0 hz1 hz2 none 0 0 [] rfl rfl (OwnB.nil _ _) (some ⟨w.heap.size, 1, none⟩) 32 32 m.session hl rfl hS.out ?q1a ?q1b ?_))
  case q1a => simp; omega
  case q1b => omega
  intro A2 c2 w2 hO2 hg2 hat2
  have hX2 := grew_box (OwnB.nil w' (w.heap.size + 1)) hg2 hX.out (by decide)
  have hB2 := Lib.hid (below_grew hB.out (OwnB.nil w' (w.heap.size + 1)) (by omega) (by omega) hg2)
  have k33 : w2.cell? ⟨w.heap.size, 33, none⟩ = some (.int .i64 m.from_) := cell_of hX2 hC.out.from_
  have k34 : w2.cell? ⟨w.heap.size, 34, none⟩ = some (.int .i64 m.to_) := cell_of hX2 hC.out.to_
  replace hX2 := Lib.hid hX2
  have hs2 : w.heap.size < w2.heap.size := heap_lt hX2.out
  have e1 := nb_u8 f0
  have e2 := nb_u8 t0
  have e3 : m.from_ % 256 = m.from_ := by omega
  have e4 : m.to_ % 256 = m.to_ := by omega
  rw [e3] at e1
  rw [e4] at e2
  have hb2 := Bs.two w2 (u8 m.from_) (u8 m.to_) 5
  rw [e1, e2] at hb2
  replace hb2 := Lib.hid hb2
  replace hO2 := Lib.hid hO2
  replace e1 := Lib.hid e1
  replace e2 := Lib.hid e2
  clear hg2 hat2 hX hB hS k0
  go_wp2_with (at_builtin; go_must (refine wpList_append_bs _ rfl _ _ 22 rfl (w.heap.size + 1) i0 Tryd.underlying22 hi0 hz0 hz1 hz2 A2 32 c2 m.session hl rfl (hO2.out.on (boxed _ _)) (some ⟨w2.heap.size, 0, none⟩) 2 2 [u8 m.from_, u8 m.to_] rfl rfl hb2.out ?q2a ?q2b ?_))
  case q2a => simp; omega
  case q2b => simp; omega
  intro A3 c3 w3 hO3 hg3 hat3
  have hX3 := grew_box (hO2.out.on (boxed _ _)) hg3 (heap_on (boxed _ _) hX2.out) (by decide)
  have hB3 := Lib.hid (below_grew (later' hB2.out (boxed _ _)) (hO2.out.on (boxed _ _)) (by omega) (by simp; omega) hg3)
  have k0 : w3.cell? ⟨w.heap.size, 0, none⟩ = some (.int .i64 2) := by rw [← hk]; exact cell_of hX3 hC.out.kind
  replace hX3 := Lib.hid hX3
  replace hO3 := Lib.hid hO3
  have hs3 : w.heap.size < w3.heap.size := heap_lt hX3.out
  have hl3 : (m.session ++ [u8 m.from_, u8 m.to_]).length = 34 := by simp [hl]
  have hr3 : Hid (bodyM m = m.session ++ [u8 m.from_, u8 m.to_] ++ restM m) := Lib.hid rfl
  generalize m.session ++ [u8 m.from_, u8 m.to_] = P at hO3 hl3 hr3 ⊢
  clear hg3 hat3 hb2 hO2 hX2 hB2 hs2
  have k35 : w3.cell? ⟨w.heap.size, 35, none⟩ = some (.int .i64 m.pair.id) := cell_of hX3.out hC.out.pid
  go_wp2_with fail
  refine (isID_any _ _).mono ?_
  rintro e w' ⟨rfl, rfl⟩
  rw [hid]
  go_wp2_with fail
  refine (need_false kPair 0 4 _).mono ?_
  rintro e w6 ⟨q, rfl, hq, hF, hB6⟩
  have hB16 := Lib.hid (later' hB3.out hB6)
  replace hF := Lib.hid hF
  clear hB3 hB6
  go_wp2_with fail
  exact ⟨rfl, q, rfl, by omega, hF.out, hB16.out⟩
set_option maxHeartbeats 8000000 in
theorem bad_pair4 (cs : Array Value) (m : Msg) (LA : Option Addr) (lc : Nat) (TA : Option Addr) (tc : Nat) (w : World) (hM : MsgIn w cs m LA lc TA tc) (hk : m.kind = 4) (f0 : 0 ≤ m.from_) (f1 : m.from_ ≤ 255) (t0 : 0 ≤ m.to_) (t1 : m.to_ ≤ 255) (hid : isId m.pair.id = false) : Calls Tryd.prog 52 #[.agg cs] w fun e w' => ∃ b, e = Threw b ∧ w.heap.size ≤ b ∧ FaultAt w' b ⟨kPair, 0, 4⟩ ∧ Below w.heap.size w w' := by
  obtain ⟨i0, hi0, hz0, hz1, hz2⟩ := info_parts inf5
  have hX := heap_alloc_new w (.cells cs 36)
  have hB := boxed w (.cells cs 36)
  have hs : (w.alloc (.cells cs 36)).heap.size = w.heap.size + 1 := by simp
  have hC := hM.cells
  have hl := hC.session.1
  go_enter Tryd.func52, Tryd.ntmps52
  go_upto_region 1 with fail
  generalize w.alloc (.cells cs 36) = w1 at hX hB hs ⊢
  have k0 : w1.cell? ⟨w.heap.size, 0, none⟩ = some (.int .i64 4) := by rw [← hk]; exact cell_of hX hC.kind
  have k33 : w1.cell? ⟨w.heap.size, 33, none⟩ = some (.int .i64 m.from_) := cell_of hX hC.from_
  have k34 : w1.cell? ⟨w.heap.size, 34, none⟩ = some (.int .i64 m.to_) := cell_of hX hC.to_
  have hS := Lib.hid (hC.session.bs hX)
  replace hX := Lib.hid hX
  replace hB := Lib.hid hB
  replace hC := Lib.hid hC
  replace hM := Lib.hid hM
  go_wp2_with fail
  refine (need_same _ _ _ _).mono ?_
  rintro e w' ⟨rfl, rfl⟩
  go_wp2_with fail
  refine (need_same _ _ _ _).mono ?_
  rintro e w' ⟨rfl, rfl⟩
  go_wp2_with fail
  refine (need_same _ _ _ _).mono ?_
  rintro e w' ⟨rfl, rfl⟩
  go_wp2_with (at_builtin; go_must (refine wpList_append_bs _ rfl _ _ 22 rfl (w.heap.size + 1) i0 Tryd.underlying22 hi0 hz0 hz1 hz2 none 0 0 [] rfl rfl (OwnB.nil _ _) (some ⟨w.heap.size, 1, none⟩) 32 32 m.session hl rfl hS.out ?q1a ?q1b ?_))
  case q1a => simp; omega
  case q1b => omega
  intro A2 c2 w2 hO2 hg2 hat2
  have hX2 := grew_box (OwnB.nil w' (w.heap.size + 1)) hg2 hX.out (by decide)
  have hB2 := Lib.hid (below_grew hB.out (OwnB.nil w' (w.heap.size + 1)) (by omega) (by omega) hg2)
  have k33 : w2.cell? ⟨w.heap.size, 33, none⟩ = some (.int .i64 m.from_) := cell_of hX2 hC.out.from_
  have k34 : w2.cell? ⟨w.heap.size, 34, none⟩ = some (.int .i64 m.to_) := cell_of hX2 hC.out.to_
  replace hX2 := Lib.hid hX2
  have hs2 : w.heap.size < w2.heap.size := heap_lt hX2.out
  have e1 := nb_u8 f0
  have e2 := nb_u8 t0
  have e3 : m.from_ % 256 = m.from_ := by omega
  have e4 : m.to_ % 256 = m.to_ := by omega
  rw [e3] at e1
  rw [e4] at e2
  have hb2 := Bs.two w2 (u8 m.from_) (u8 m.to_) 5
  rw [e1, e2] at hb2
  replace hb2 := Lib.hid hb2
  replace hO2 := Lib.hid hO2
  replace e1 := Lib.hid e1
  replace e2 := Lib.hid e2
  clear hg2 hat2 hX hB hS k0
  go_wp2_with (at_builtin; go_must (refine wpList_append_bs _ rfl _ _ 22 rfl (w.heap.size + 1) i0 Tryd.underlying22 hi0 hz0 hz1 hz2 A2 32 c2 m.session hl rfl (hO2.out.on (boxed _ _)) (some ⟨w2.heap.size, 0, none⟩) 2 2 [u8 m.from_, u8 m.to_] rfl rfl hb2.out ?q2a ?q2b ?_))
  case q2a => simp; omega
  case q2b => simp; omega
  intro A3 c3 w3 hO3 hg3 hat3
  have hX3 := grew_box (hO2.out.on (boxed _ _)) hg3 (heap_on (boxed _ _) hX2.out) (by decide)
  have hB3 := Lib.hid (below_grew (later' hB2.out (boxed _ _)) (hO2.out.on (boxed _ _)) (by omega) (by simp; omega) hg3)
  have k0 : w3.cell? ⟨w.heap.size, 0, none⟩ = some (.int .i64 4) := by rw [← hk]; exact cell_of hX3 hC.out.kind
  replace hX3 := Lib.hid hX3
  replace hO3 := Lib.hid hO3
  have hs3 : w.heap.size < w3.heap.size := heap_lt hX3.out
  have hl3 : (m.session ++ [u8 m.from_, u8 m.to_]).length = 34 := by simp [hl]
  have hr3 : Hid (bodyM m = m.session ++ [u8 m.from_, u8 m.to_] ++ restM m) := Lib.hid rfl
  generalize m.session ++ [u8 m.from_, u8 m.to_] = P at hO3 hl3 hr3 ⊢
  clear hg3 hat3 hb2 hO2 hX2 hB2 hs2
  have k35 : w3.cell? ⟨w.heap.size, 35, none⟩ = some (.int .i64 m.pair.id) := cell_of hX3.out hC.out.pid
  go_wp2_with fail
  refine (isID_any _ _).mono ?_
  rintro e w' ⟨rfl, rfl⟩
  rw [hid]
  go_wp2_with fail
  refine (need_false kPair 0 4 _).mono ?_
  rintro e w6 ⟨q, rfl, hq, hF, hB6⟩
  have hB16 := Lib.hid (later' hB3.out hB6)
  replace hF := Lib.hid hF
  clear hB3 hB6
  go_wp2_with fail
  exact ⟨rfl, q, rfl, by omega, hF.out, hB16.out⟩
set_option maxHeartbeats 8000000 in
theorem bad_count (cs : Array Value) (m : Msg) (LA : Option Addr) (lc : Nat) (TA : Option Addr) (tc : Nat) (w : World) (hM : MsgIn w cs m LA lc TA tc) (hk : m.kind = 3) (f0 : 0 ≤ m.from_) (f1 : m.from_ ≤ 255) (t0 : 0 ≤ m.to_) (t1 : m.to_ ≤ 255) (hll : 255 < m.list.length) : Calls Tryd.prog 52 #[.agg cs] w fun e w' => ∃ b, e = Threw b ∧ w.heap.size ≤ b ∧ FaultAt w' b ⟨kList, 0, 8⟩ ∧ Below w.heap.size w w' := by
  obtain ⟨i0, hi0, hz0, hz1, hz2⟩ := info_parts inf5
  have hX := heap_alloc_new w (.cells cs 36)
  have hB := boxed w (.cells cs 36)
  have hs : (w.alloc (.cells cs 36)).heap.size = w.heap.size + 1 := by simp
  have hC := hM.cells
  have hl := hC.session.1
  go_enter Tryd.func52, Tryd.ntmps52
  go_upto_region 1 with fail
  generalize w.alloc (.cells cs 36) = w1 at hX hB hs ⊢
  have k0 : w1.cell? ⟨w.heap.size, 0, none⟩ = some (.int .i64 3) := by rw [← hk]; exact cell_of hX hC.kind
  have k33 : w1.cell? ⟨w.heap.size, 33, none⟩ = some (.int .i64 m.from_) := cell_of hX hC.from_
  have k34 : w1.cell? ⟨w.heap.size, 34, none⟩ = some (.int .i64 m.to_) := cell_of hX hC.to_
  have hS := Lib.hid (hC.session.bs hX)
  replace hX := Lib.hid hX
  replace hB := Lib.hid hB
  replace hC := Lib.hid hC
  replace hM := Lib.hid hM
  go_wp2_with fail
  refine (need_same _ _ _ _).mono ?_
  rintro e w' ⟨rfl, rfl⟩
  go_wp2_with fail
  refine (need_same _ _ _ _).mono ?_
  rintro e w' ⟨rfl, rfl⟩
  go_wp2_with fail
  refine (need_same _ _ _ _).mono ?_
  rintro e w' ⟨rfl, rfl⟩
  go_wp2_with (at_builtin; go_must (refine wpList_append_bs _ rfl _ _ 22 rfl (w.heap.size + 1) i0 Tryd.underlying22 hi0 hz0 hz1 hz2 none 0 0 [] rfl rfl (OwnB.nil _ _) (some ⟨w.heap.size, 1, none⟩) 32 32 m.session hl rfl hS.out ?q1a ?q1b ?_))
  case q1a => simp; omega
  case q1b => omega
  intro A2 c2 w2 hO2 hg2 hat2
  have hX2 := grew_box (OwnB.nil w' (w.heap.size + 1)) hg2 hX.out (by decide)
  have hB2 := Lib.hid (below_grew hB.out (OwnB.nil w' (w.heap.size + 1)) (by omega) (by omega) hg2)
  have k33 : w2.cell? ⟨w.heap.size, 33, none⟩ = some (.int .i64 m.from_) := cell_of hX2 hC.out.from_
  have k34 : w2.cell? ⟨w.heap.size, 34, none⟩ = some (.int .i64 m.to_) := cell_of hX2 hC.out.to_
  replace hX2 := Lib.hid hX2
  have hs2 : w.heap.size < w2.heap.size := heap_lt hX2.out
  have e1 := nb_u8 f0
  have e2 := nb_u8 t0
  have e3 : m.from_ % 256 = m.from_ := by omega
  have e4 : m.to_ % 256 = m.to_ := by omega
  rw [e3] at e1
  rw [e4] at e2
  have hb2 := Bs.two w2 (u8 m.from_) (u8 m.to_) 5
  rw [e1, e2] at hb2
  replace hb2 := Lib.hid hb2
  replace hO2 := Lib.hid hO2
  replace e1 := Lib.hid e1
  replace e2 := Lib.hid e2
  clear hg2 hat2 hX hB hS k0
  go_wp2_with (at_builtin; go_must (refine wpList_append_bs _ rfl _ _ 22 rfl (w.heap.size + 1) i0 Tryd.underlying22 hi0 hz0 hz1 hz2 A2 32 c2 m.session hl rfl (hO2.out.on (boxed _ _)) (some ⟨w2.heap.size, 0, none⟩) 2 2 [u8 m.from_, u8 m.to_] rfl rfl hb2.out ?q2a ?q2b ?_))
  case q2a => simp; omega
  case q2b => simp; omega
  intro A3 c3 w3 hO3 hg3 hat3
  have hX3 := grew_box (hO2.out.on (boxed _ _)) hg3 (heap_on (boxed _ _) hX2.out) (by decide)
  have hB3 := Lib.hid (below_grew (later' hB2.out (boxed _ _)) (hO2.out.on (boxed _ _)) (by omega) (by simp; omega) hg3)
  have k0 : w3.cell? ⟨w.heap.size, 0, none⟩ = some (.int .i64 3) := by rw [← hk]; exact cell_of hX3 hC.out.kind
  replace hX3 := Lib.hid hX3
  replace hO3 := Lib.hid hO3
  have hs3 : w.heap.size < w3.heap.size := heap_lt hX3.out
  have hl3 : (m.session ++ [u8 m.from_, u8 m.to_]).length = 34 := by simp [hl]
  have hr3 : Hid (bodyM m = m.session ++ [u8 m.from_, u8 m.to_] ++ restM m) := Lib.hid rfl
  generalize m.session ++ [u8 m.from_, u8 m.to_] = P at hO3 hl3 hr3 ⊢
  clear hg3 hat3 hb2 hO2 hX2 hB2 hs2
  have k100 : w3.cell? ⟨w.heap.size, 100, none⟩ = some (.slice LA m.list.length lc) := cell_of hX3.out hC.out.list
  go_wp2_with fail
  rw [decide_eq_false (by omega)]
  refine (need_false kList 0 8 _).mono ?_
  rintro e w6 ⟨q, rfl, hq, hF, hB6⟩
  have hB16 := Lib.hid (later' hB3.out hB6)
  replace hF := Lib.hid hF
  clear hB3 hB6
  go_wp2_with fail
  exact ⟨rfl, q, rfl, by omega, hF.out, hB16.out⟩
set_option maxHeartbeats 8000000 in
theorem bad_code1 (cs : Array Value) (m : Msg) (LA : Option Addr) (lc : Nat) (TA : Option Addr) (tc : Nat) (w : World) (hM : MsgIn w cs m LA lc TA tc) (hk : m.kind = 5) (f0 : 0 ≤ m.from_) (f1 : m.from_ ≤ 255) (t0 : 0 ≤ m.to_) (t1 : m.to_ ≤ 255) (h : m.code < 1) : Calls Tryd.prog 52 #[.agg cs] w fun e w' => ∃ b, e = Threw b ∧ w.heap.size ≤ b ∧ FaultAt w' b ⟨kCode, 0, 1⟩ ∧ Below w.heap.size w w' := by
  obtain ⟨i0, hi0, hz0, hz1, hz2⟩ := info_parts inf5
  have hX := heap_alloc_new w (.cells cs 36)
  have hB := boxed w (.cells cs 36)
  have hs : (w.alloc (.cells cs 36)).heap.size = w.heap.size + 1 := by simp
  have hC := hM.cells
  have hl := hC.session.1
  go_enter Tryd.func52, Tryd.ntmps52
  go_upto_region 1 with fail
  generalize w.alloc (.cells cs 36) = w1 at hX hB hs ⊢
  have k0 : w1.cell? ⟨w.heap.size, 0, none⟩ = some (.int .i64 5) := by rw [← hk]; exact cell_of hX hC.kind
  have k33 : w1.cell? ⟨w.heap.size, 33, none⟩ = some (.int .i64 m.from_) := cell_of hX hC.from_
  have k34 : w1.cell? ⟨w.heap.size, 34, none⟩ = some (.int .i64 m.to_) := cell_of hX hC.to_
  have hS := Lib.hid (hC.session.bs hX)
  replace hX := Lib.hid hX
  replace hB := Lib.hid hB
  replace hC := Lib.hid hC
  replace hM := Lib.hid hM
  go_wp2_with fail
  refine (need_same _ _ _ _).mono ?_
  rintro e w' ⟨rfl, rfl⟩
  go_wp2_with fail
  refine (need_same _ _ _ _).mono ?_
  rintro e w' ⟨rfl, rfl⟩
  go_wp2_with fail
  refine (need_same _ _ _ _).mono ?_
  rintro e w' ⟨rfl, rfl⟩
  go_wp2_with (at_builtin; go_must (refine wpList_append_bs _ rfl _ _ 22 rfl (w.heap.size + 1) i0 Tryd.underlying22 hi0 hz0 hz1 hz2 none 0 0 [] rfl rfl (OwnB.nil _ _) (some ⟨w.heap.size, 1, none⟩) 32 32 m.session hl rfl hS.out ?q1a ?q1b ?_))
  case q1a => simp; omega
  case q1b => omega
  intro A2 c2 w2 hO2 hg2 hat2
  have hX2 := grew_box (OwnB.nil w' (w.heap.size + 1)) hg2 hX.out (by decide)
  have hB2 := Lib.hid (below_grew hB.out (OwnB.nil w' (w.heap.size + 1)) (by omega) (by omega) hg2)
  have k33 : w2.cell? ⟨w.heap.size, 33, none⟩ = some (.int .i64 m.from_) := cell_of hX2 hC.out.from_
  have k34 : w2.cell? ⟨w.heap.size, 34, none⟩ = some (.int .i64 m.to_) := cell_of hX2 hC.out.to_
  replace hX2 := Lib.hid hX2
  have hs2 : w.heap.size < w2.heap.size := heap_lt hX2.out
  have e1 := nb_u8 f0
  have e2 := nb_u8 t0
  have e3 : m.from_ % 256 = m.from_ := by omega
  have e4 : m.to_ % 256 = m.to_ := by omega
  rw [e3] at e1
  rw [e4] at e2
  have hb2 := Bs.two w2 (u8 m.from_) (u8 m.to_) 5
  rw [e1, e2] at hb2
  replace hb2 := Lib.hid hb2
  replace hO2 := Lib.hid hO2
  replace e1 := Lib.hid e1
  replace e2 := Lib.hid e2
  clear hg2 hat2 hX hB hS k0
  go_wp2_with (at_builtin; go_must (refine wpList_append_bs _ rfl _ _ 22 rfl (w.heap.size + 1) i0 Tryd.underlying22 hi0 hz0 hz1 hz2 A2 32 c2 m.session hl rfl (hO2.out.on (boxed _ _)) (some ⟨w2.heap.size, 0, none⟩) 2 2 [u8 m.from_, u8 m.to_] rfl rfl hb2.out ?q2a ?q2b ?_))
  case q2a => simp; omega
  case q2b => simp; omega
  intro A3 c3 w3 hO3 hg3 hat3
  have hX3 := grew_box (hO2.out.on (boxed _ _)) hg3 (heap_on (boxed _ _) hX2.out) (by decide)
  have hB3 := Lib.hid (below_grew (later' hB2.out (boxed _ _)) (hO2.out.on (boxed _ _)) (by omega) (by simp; omega) hg3)
  have k0 : w3.cell? ⟨w.heap.size, 0, none⟩ = some (.int .i64 5) := by rw [← hk]; exact cell_of hX3 hC.out.kind
  replace hX3 := Lib.hid hX3
  replace hO3 := Lib.hid hO3
  have hs3 : w.heap.size < w3.heap.size := heap_lt hX3.out
  have hl3 : (m.session ++ [u8 m.from_, u8 m.to_]).length = 34 := by simp [hl]
  have hr3 : Hid (bodyM m = m.session ++ [u8 m.from_, u8 m.to_] ++ restM m) := Lib.hid rfl
  generalize m.session ++ [u8 m.from_, u8 m.to_] = P at hO3 hl3 hr3 ⊢
  clear hg3 hat3 hb2 hO2 hX2 hB2 hs2
  have k230 : w3.cell? ⟨w.heap.size, 230, none⟩ = some (.int .i64 m.code) := cell_of hX3.out hC.out.code
  go_wp2_with fail
  refine (need_false kCode 0 1 _).mono ?_
  rintro e w6 ⟨q, rfl, hq, hF, hB6⟩
  have hB16 := Lib.hid (later' hB3.out hB6)
  replace hF := Lib.hid hF
  clear hB3 hB6
  go_wp2_with fail
  exact ⟨rfl, q, rfl, by omega, hF.out, hB16.out⟩
set_option maxHeartbeats 8000000 in
theorem bad_code2 (cs : Array Value) (m : Msg) (LA : Option Addr) (lc : Nat) (TA : Option Addr) (tc : Nat) (w : World) (hM : MsgIn w cs m LA lc TA tc) (hk : m.kind = 5) (f0 : 0 ≤ m.from_) (f1 : m.from_ ≤ 255) (t0 : 0 ≤ m.to_) (t1 : m.to_ ≤ 255) (h : ¬ m.code ≤ 65535) (h1 : 1 ≤ m.code) : Calls Tryd.prog 52 #[.agg cs] w fun e w' => ∃ b, e = Threw b ∧ w.heap.size ≤ b ∧ FaultAt w' b ⟨kCode, 0, 1⟩ ∧ Below w.heap.size w w' := by
  obtain ⟨i0, hi0, hz0, hz1, hz2⟩ := info_parts inf5
  have hX := heap_alloc_new w (.cells cs 36)
  have hB := boxed w (.cells cs 36)
  have hs : (w.alloc (.cells cs 36)).heap.size = w.heap.size + 1 := by simp
  have hC := hM.cells
  have hl := hC.session.1
  go_enter Tryd.func52, Tryd.ntmps52
  go_upto_region 1 with fail
  generalize w.alloc (.cells cs 36) = w1 at hX hB hs ⊢
  have k0 : w1.cell? ⟨w.heap.size, 0, none⟩ = some (.int .i64 5) := by rw [← hk]; exact cell_of hX hC.kind
  have k33 : w1.cell? ⟨w.heap.size, 33, none⟩ = some (.int .i64 m.from_) := cell_of hX hC.from_
  have k34 : w1.cell? ⟨w.heap.size, 34, none⟩ = some (.int .i64 m.to_) := cell_of hX hC.to_
  have hS := Lib.hid (hC.session.bs hX)
  replace hX := Lib.hid hX
  replace hB := Lib.hid hB
  replace hC := Lib.hid hC
  replace hM := Lib.hid hM
  go_wp2_with fail
  refine (need_same _ _ _ _).mono ?_
  rintro e w' ⟨rfl, rfl⟩
  go_wp2_with fail
  refine (need_same _ _ _ _).mono ?_
  rintro e w' ⟨rfl, rfl⟩
  go_wp2_with fail
  refine (need_same _ _ _ _).mono ?_
  rintro e w' ⟨rfl, rfl⟩
  go_wp2_with (at_builtin; go_must (refine wpList_append_bs _ rfl _ _ 22 rfl (w.heap.size + 1) i0 Tryd.underlying22 hi0 hz0 hz1 hz2 none 0 0 [] rfl rfl (OwnB.nil _ _) (some ⟨w.heap.size, 1, none⟩) 32 32 m.session hl rfl hS.out ?q1a ?q1b ?_))
  case q1a => simp; omega
  case q1b => omega
  intro A2 c2 w2 hO2 hg2 hat2
  have hX2 := grew_box (OwnB.nil w' (w.heap.size + 1)) hg2 hX.out (by decide)
  have hB2 := Lib.hid (below_grew hB.out (OwnB.nil w' (w.heap.size + 1)) (by omega) (by omega) hg2)
  have k33 : w2.cell? ⟨w.heap.size, 33, none⟩ = some (.int .i64 m.from_) := cell_of hX2 hC.out.from_
  have k34 : w2.cell? ⟨w.heap.size, 34, none⟩ = some (.int .i64 m.to_) := cell_of hX2 hC.out.to_
  replace hX2 := Lib.hid hX2
  have hs2 : w.heap.size < w2.heap.size := heap_lt hX2.out
  have e1 := nb_u8 f0
  have e2 := nb_u8 t0
  have e3 : m.from_ % 256 = m.from_ := by omega
  have e4 : m.to_ % 256 = m.to_ := by omega
  rw [e3] at e1
  rw [e4] at e2
  have hb2 := Bs.two w2 (u8 m.from_) (u8 m.to_) 5
  rw [e1, e2] at hb2
  replace hb2 := Lib.hid hb2
  replace hO2 := Lib.hid hO2
  replace e1 := Lib.hid e1
  replace e2 := Lib.hid e2
  clear hg2 hat2 hX hB hS k0
  go_wp2_with (at_builtin; go_must (refine wpList_append_bs _ rfl _ _ 22 rfl (w.heap.size + 1) i0 Tryd.underlying22 hi0 hz0 hz1 hz2 A2 32 c2 m.session hl rfl (hO2.out.on (boxed _ _)) (some ⟨w2.heap.size, 0, none⟩) 2 2 [u8 m.from_, u8 m.to_] rfl rfl hb2.out ?q2a ?q2b ?_))
  case q2a => simp; omega
  case q2b => simp; omega
  intro A3 c3 w3 hO3 hg3 hat3
  have hX3 := grew_box (hO2.out.on (boxed _ _)) hg3 (heap_on (boxed _ _) hX2.out) (by decide)
  have hB3 := Lib.hid (below_grew (later' hB2.out (boxed _ _)) (hO2.out.on (boxed _ _)) (by omega) (by simp; omega) hg3)
  have k0 : w3.cell? ⟨w.heap.size, 0, none⟩ = some (.int .i64 5) := by rw [← hk]; exact cell_of hX3 hC.out.kind
  replace hX3 := Lib.hid hX3
  replace hO3 := Lib.hid hO3
  have hs3 : w.heap.size < w3.heap.size := heap_lt hX3.out
  have hl3 : (m.session ++ [u8 m.from_, u8 m.to_]).length = 34 := by simp [hl]
  have hr3 : Hid (bodyM m = m.session ++ [u8 m.from_, u8 m.to_] ++ restM m) := Lib.hid rfl
  generalize m.session ++ [u8 m.from_, u8 m.to_] = P at hO3 hl3 hr3 ⊢
  clear hg3 hat3 hb2 hO2 hX2 hB2 hs2
  have k230 : w3.cell? ⟨w.heap.size, 230, none⟩ = some (.int .i64 m.code) := cell_of hX3.out hC.out.code
  go_wp2_with fail
  rw [decide_eq_false (by omega)]
  refine (need_false kCode 0 1 _).mono ?_
  rintro e w6 ⟨q, rfl, hq, hF, hB6⟩
  have hB16 := Lib.hid (later' hB3.out hB6)
  replace hF := Lib.hid hF
  clear hB3 hB6
  go_wp2_with fail
  exact ⟨rfl, q, rfl, by omega, hF.out, hB16.out⟩
set_option maxHeartbeats 16000000 in
theorem body_3bad (cs : Array Value) (m : Msg) (LA : Option Addr) (lc : Nat) (TA : Option Addr) (tc : Nat) (w : World) (hM : MsgIn w cs m LA lc TA tc) (hk : m.kind = 3) (f0 : 0 ≤ m.from_) (f1 : m.from_ ≤ 255) (t0 : 0 ≤ m.to_) (t1 : m.to_ ≤ 255) (hll : m.list.length ≤ 255) (i : Nat) (hi : i ≤ m.list.length) (hids : ∀ j, j < i → isId (m.list.getD j Pair.zero).id = true) (hbad : i < m.list.length → isId (m.list.getD i Pair.zero).id = false) (hend : i = m.list.length → 1048575 < m.text.length) (f : FD) (hf1 : i < m.list.length → f = ⟨kList, i, 4⟩) (hf2 : i = m.list.length → f = ⟨kText, 0, 10⟩) : Calls Tryd.prog 52 #[.agg cs] w fun e w' => ∃ b, e = Threw b ∧ w.heap.size ≤ b ∧ FaultAt w' b f ∧ Below w.heap.size w w' := by
  replace hids := Lib.hid hids
  replace hbad := Lib.hid hbad
  replace hend := Lib.hid hend
  replace hf1 := Lib.hid hf1
  replace hf2 := Lib.hid hf2
  obtain ⟨i0, hi0, hz0, hz1, hz2⟩ := info_parts inf5
  have hX := heap_alloc_new w (.cells cs 36)
  have hB := boxed w (.cells cs 36)
  have hs : (w.alloc (.cells cs 36)).heap.size = w.heap.size + 1 := by simp
  have hC := hM.cells
  have hl := hC.session.1
  go_enter Tryd.func52, Tryd.ntmps52
  go_upto_region 1 with fail
  generalize w.alloc (.cells cs 36) = w1 at hX hB hs ⊢
  have k0 : w1.cell? ⟨w.heap.size, 0, none⟩ = some (.int .i64 3) := by rw [← hk]; exact cell_of hX hC.kind
  have k33 : w1.cell? ⟨w.heap.size, 33, none⟩ = some (.int .i64 m.from_) := cell_of hX hC.from_
  have k34 : w1.cell? ⟨w.heap.size, 34, none⟩ = some (.int .i64 m.to_) := cell_of hX hC.to_
  have hS := Lib.hid (hC.session.bs hX)
  replace hX := Lib.hid hX
  replace hB := Lib.hid hB
  replace hC := Lib.hid hC
  replace hM := Lib.hid hM
  go_wp2_with fail
  refine (need_same _ _ _ _).mono ?_
  rintro e w' ⟨rfl, rfl⟩
  go_wp2_with fail
  refine (need_same _ _ _ _).mono ?_
  rintro e w' ⟨rfl, rfl⟩
  go_wp2_with fail
  refine (need_same _ _ _ _).mono ?_
  rintro e w' ⟨rfl, rfl⟩
  go_wp2_with (at_builtin; go_must (refine wpList_append_bs _ rfl _ _ 22 rfl (w.heap.size + 1) i0 Tryd.underlying22 hi0 hz0 hz1 hz2 none 0 0 [] rfl rfl (OwnB.nil _ _) (some ⟨w.heap.size, 1, none⟩) 32 32 m.session hl rfl hS.out ?q1a ?q1b ?_))
  case q1a => simp; omega
  case q1b => omega
  intro A2 c2 w2 hO2 hg2 hat2
  have hX2 := grew_box (OwnB.nil w' (w.heap.size + 1)) hg2 hX.out (by decide)
  have hB2 := Lib.hid (below_grew hB.out (OwnB.nil w' (w.heap.size + 1)) (by omega) (by omega) hg2)
  have k33 : w2.cell? ⟨w.heap.size, 33, none⟩ = some (.int .i64 m.from_) := cell_of hX2 hC.out.from_
  have k34 : w2.cell? ⟨w.heap.size, 34, none⟩ = some (.int .i64 m.to_) := cell_of hX2 hC.out.to_
  replace hX2 := Lib.hid hX2
  have hs2 : w.heap.size < w2.heap.size := heap_lt hX2.out
  have e1 := nb_u8 f0
  have e2 := nb_u8 t0
  have e3 : m.from_ % 256 = m.from_ := by omega
  have e4 : m.to_ % 256 = m.to_ := by omega
  rw [e3] at e1
  rw [e4] at e2
  have hb2 := Bs.two w2 (u8 m.from_) (u8 m.to_) 5
  rw [e1, e2] at hb2
  replace hb2 := Lib.hid hb2
  replace hO2 := Lib.hid hO2
  replace e1 := Lib.hid e1
  replace e2 := Lib.hid e2
  clear hg2 hat2 hX hB hS k0
  go_wp2_with (at_builtin; go_must (refine wpList_append_bs _ rfl _ _ 22 rfl (w.heap.size + 1) i0 Tryd.underlying22 hi0 hz0 hz1 hz2 A2 32 c2 m.session hl rfl (hO2.out.on (boxed _ _)) (some ⟨w2.heap.size, 0, none⟩) 2 2 [u8 m.from_, u8 m.to_] rfl rfl hb2.out ?q2a ?q2b ?_))
  case q2a => simp; omega
  case q2b => simp; omega
  intro A3 c3 w3 hO3 hg3 hat3
  have hX3 := grew_box (hO2.out.on (boxed _ _)) hg3 (heap_on (boxed _ _) hX2.out) (by decide)
  have hB3 := Lib.hid (below_grew (later' hB2.out (boxed _ _)) (hO2.out.on (boxed _ _)) (by omega) (by simp; omega) hg3)
  have k0 : w3.cell? ⟨w.heap.size, 0, none⟩ = some (.int .i64 3) := by rw [← hk]; exact cell_of hX3 hC.out.kind
  replace hX3 := Lib.hid hX3
  replace hO3 := Lib.hid hO3
  have hs3 : w.heap.size < w3.heap.size := heap_lt hX3.out
  have hl3 : (m.session ++ [u8 m.from_, u8 m.to_]).length = 34 := by simp [hl]
  have hr3 : Hid (bodyM m = m.session ++ [u8 m.from_, u8 m.to_] ++ restM m) := Lib.hid rfl
  generalize m.session ++ [u8 m.from_, u8 m.to_] = P at hO3 hl3 hr3 ⊢
  clear hg3 hat3 hb2 hO2 hX2 hB2 hs2
  have k100 : w3.cell? ⟨w.heap.size, 100, none⟩ = some (.slice LA m.list.length lc) := cell_of hX3.out hC.out.list
  have k101 : w3.cell? ⟨w.heap.size, 101, none⟩ = some (.slice TA m.text.length tc) := cell_of hX3.out hC.out.text
  go_wp2_with fail
  refine (need_dec (by omega) _ _ _ _).mono ?_
  rintro e w3 ⟨rfl, rfl⟩
  have hb3 := Bs.one w3 (UInt8.ofNat m.list.length) 5
  rw [show nb (UInt8.ofNat m.list.length) = (m.list.length : Int) from by rw [b8_of]; omega] at hb3
  replace hb3 := Lib.hid hb3
  go_wp2_with (at_builtin; go_must (refine wpList_append_bs _ rfl _ _ 22 rfl (w.heap.size + 1) i0 Tryd.underlying22 hi0 hz0 hz1 hz2 A3 34 c3 P hl3 rfl (hO3.out.on (boxed _ _)) (some ⟨w3.heap.size, 0, none⟩) 1 1 [UInt8.ofNat m.list.length] rfl rfl hb3.out ?q3a ?q3b ?_))
  case q3a => simp [hl3]
  case q3b => simp; omega
  intro A4 c4 w4 hO4 hg4 hat4
  have hX4 := grew_box (hO3.out.on (boxed _ _)) hg4 (heap_on (boxed _ _) hX3.out) (by decide)
  have hB4 := Lib.hid (below_grew (later' hB3.out (boxed _ _)) (hO3.out.on (boxed _ _)) (by omega) (by simp; omega) hg4)
  have k100 : w4.cell? ⟨w.heap.size, 100, none⟩ = some (.slice LA m.list.length lc) := cell_of hX4 hC.out.list
  replace hX4 := Lib.hid hX4
  replace hO4 := Lib.hid hO4
  have hs4 : w.heap.size < w4.heap.size := heap_lt hX4.out
  clear hg4 hat4 hb3 hO3 hX3 hB3
  have hPl := hM.out.pok
  replace hPl := Lib.hid hPl
  have hrel0 : Hid (OwnB w4 (w.heap.size + 1) A4 c4 (P ++ UInt8.ofNat m.list.length :: pairsL (m.list.take 0))) := Lib.hid (by simpa [pairsL] using hO4.out)
  have hpl : Hid (∀ k, k ≤ m.list.length → (pairsL (m.list.take k)).length = 65 * k) := Lib.hid fun k hk => by
    rw [pairsL_len (fun i => ?_), List.length_take, Nat.min_eq_left hk]
    rw [List.getD_eq_getElem?_getD, List.getElem?_take]
    split
    · exact hPl.out i
    · exact pair0_ok
  have hzs : Tryd.zeroCells29.size = 65 := by kernel_rfl
  replace hzs := Lib.hid hzs
  go_wp2_with fail
  go_loopw [3, 75] (fun s x wr => ∃ (k : Nat) (A : Option Addr) (c : Nat), k ≤ i ∧ x = .int .i64 k ∧ s = .slice A (35 + 65 * k) c ∧ Hid (OwnB wr (w.heap.size + 1) A c (P ++ UInt8.ofNat m.list.length :: pairsL (m.list.take k))) ∧ Hid (wr.heap[w.heap.size]? = some (.cells cs 36 (0, 0))) ∧ Hid (Below w.heap.size w wr)) (fun _ x _ => m.list.length - (intOf x).toNat)
  case atStart => exact ⟨0, A4, c4, Nat.zero_le _, rfl, rfl, hrel0, hX4, hB4⟩
  case round =>
    obtain ⟨k, Ar, cr, hk1, rfl, rfl, hOr, hXr, hBr⟩ := hrel
    clear hX4 hB4 hO4 hs4 hrel0 k100 k101 k0
    have hsr : w.heap.size < wr.heap.size := heap_lt hXr.out
    rcases Nat.lt_or_ge k i with hlti | hge
    · have hlt : k < m.list.length := by omega
      obtain ⟨b, o, rfl, hc⟩ := hM.out.list (by omega)
      have hRA := Lib.hid ((hc k hlt).on hBr.out)
      clear hc
      have q1 : (0 : Int) ≤ (k : Int) := by omega
      have q2 : (k : Int) < (m.list.length : Int) := by omega
      have hpk := Lib.hid (hPl.out k)
      have hidk := Lib.hid (hids.out k hlti)
      have hts := Lib.hid (pairsL_take_succ hlt)
      have hlk : Hid ((P ++ UInt8.ofNat m.list.length :: pairsL (m.list.take k)).length = 35 + 65 * k) := Lib.hid (by
        have := hpl.out k (by omega)
        simp [hl3] at this ⊢
        omega)
      generalize m.list.getD k Pair.zero = pk at hRA hpk hidk hts
      have hifP : (Tryd.prog.info? 29).map (·.size) = some (pairA pk).size := by rw [pairA_size hpk.out]; kernel_rfl
      have hzc : Tryd.zeroCells29.size = (pairA pk).size := by rw [pairA_size hpk.out]; exact hzs.out
      have hone : (pairA pk).all (·.oneCell') = true := pairA_one pk
      have hz := Lib.hid (heap_alloc_new wr (.cells Tryd.zeroCells29 29))
      have hrow : (wr.alloc (.cells Tryd.zeroCells29 29)).setRow wr.heap.size (pairA pk) = wr.alloc (.cells (pairA pk) 29) := World.setRow_alloc_new _ _ _ _
      replace hrow := Lib.hid hrow
      go_upto_region 16 with (first | (refine wpList_loadM _ rfl _ _ rfl b (o + k * 65) rfl (pairA pk) hRA.out _ Tryd.underlying29 rfl hifP ?_) | (refine wpList_storeW _ rfl _ _ _ rfl wr.heap.size (pairA pk) rfl rfl _ _ hz.out hifP hzc hone ?_))
      rw [hrow.out]
      have hP5 := heap_alloc_new wr (.cells (pairA pk) 29)
      have hX5 := Lib.hid (heap_on (boxed wr (.cells (pairA pk) 29)) hXr.out)
      have hB5 := Lib.hid (later' hBr.out (boxed wr (.cells (pairA pk) 29)))
      have hO5 := Lib.hid (hOr.out.on (boxed wr (.cells (pairA pk) 29)))
      have hs5 : (wr.alloc (.cells (pairA pk) 29)).heap.size = wr.heap.size + 1 := by simp
      clear hrow hz hOr hXr hBr hRA hzc hone
      generalize wr.alloc (.cells (pairA pk) 29) = w5 at hP5 hX5 hB5 hO5 hs5 ⊢
      have kid : w5.cell? ⟨wr.heap.size, 0, none⟩ = some (.int .i64 pk.id) := cell_of hP5 (pairA_get0 pk)
      have hR5 := Lib.hid (rowAt_pair hP5)
      clear hP5
      obtain ⟨p1, p2⟩ := isId_true.1 hidk.out
      go_wp2_with fail
      refine (isID_any _ _).mono ?_
      rintro e w' ⟨rfl, rfl⟩
      rw [hidk.out]
      go_wp2_with fail
      refine (need_same _ _ _ _).mono ?_
      rintro e w5 ⟨rfl, rfl⟩
      go_wp2_with (refine wpList_loadM _ rfl _ _ rfl wr.heap.size 0 rfl (pairA pk) hR5.out _ Tryd.underlying29 rfl hifP ?_)
      refine (putPair_any (w.heap.size + 1) Ar (35 + 65 * k) cr _ pk _ hpk.out (by omega) (by omega) hO5.out hlk.out (by omega) (by omega)).mono ?_
      rintro e w6 ⟨A6, c6, rfl, hO6, hB6, hT6⟩
      have hX6 := hT6 _ cs 36 _ hX5.out (by decide)
      have hB16 := Lib.hid (hB5.out.trans (hB6.mono (by omega)))
      replace hX6 := Lib.hid hX6
      have hO66 : OwnB w6 (w.heap.size + 1) A6 c6 (P ++ UInt8.ofNat m.list.length :: pairsL (m.list.take (k + 1))) := by
        rw [hts.out]
        simpa using hO6
      replace hO66 := Lib.hid hO66
      clear hT6 hB6 hO6 hR5 kid
      go_wp2_with fail
      exact ⟨⟨k + 1, A6, c6, by omega, by go_num, by congr 1, hO66, hX6, hB16⟩, by simp [intOf]; omega⟩
    · have : k = i := by omega
      subst this
      clear hk1 hge
      by_cases hlt : k < m.list.length
      · obtain rfl := hf1.out hlt
        obtain ⟨b, o, rfl, hc⟩ := hM.out.list (by omega)
        have hRA := Lib.hid ((hc k hlt).on hBr.out)
        clear hc
        have q1 : (0 : Int) ≤ (k : Int) := by omega
        have q2 : (k : Int) < (m.list.length : Int) := by omega
        have hpk := Lib.hid (hPl.out k)
        have hidk := Lib.hid (hbad.out hlt)
        generalize m.list.getD k Pair.zero = pk at hRA hpk hidk
        have hifP : (Tryd.prog.info? 29).map (·.size) = some (pairA pk).size := by rw [pairA_size hpk.out]; kernel_rfl
        have hzc : Tryd.zeroCells29.size = (pairA pk).size := by rw [pairA_size hpk.out]; exact hzs.out
        have hone : (pairA pk).all (·.oneCell') = true := pairA_one pk
        have hz := Lib.hid (heap_alloc_new wr (.cells Tryd.zeroCells29 29))
        have hrow : (wr.alloc (.cells Tryd.zeroCells29 29)).setRow wr.heap.size (pairA pk) = wr.alloc (.cells (pairA pk) 29) := World.setRow_alloc_new _ _ _ _
        replace hrow := Lib.hid hrow
        go_upto_region 16 with (first | (refine wpList_loadM _ rfl _ _ rfl b (o + k * 65) rfl (pairA pk) hRA.out _ Tryd.underlying29 rfl hifP ?_) | (refine wpList_storeW _ rfl _ _ _ rfl wr.heap.size (pairA pk) rfl rfl _ _ hz.out hifP hzc hone ?_))
        rw [hrow.out]
        have hP5 := heap_alloc_new wr (.cells (pairA pk) 29)
        have hB5 := Lib.hid (later' hBr.out (boxed wr (.cells (pairA pk) 29)))
        have hs5 : (wr.alloc (.cells (pairA pk) 29)).heap.size = wr.heap.size + 1 := by simp
        clear hrow hz hOr hXr hBr hRA hzc hone
        generalize wr.alloc (.cells (pairA pk) 29) = w5 at hP5 hB5 hs5 ⊢
        have kid : w5.cell? ⟨wr.heap.size, 0, none⟩ = some (.int .i64 pk.id) := cell_of hP5 (pairA_get0 pk)
        clear hP5
        go_wp2_with fail
        refine (isID_any _ _).mono ?_
        rintro e w' ⟨rfl, rfl⟩
        rw [hidk.out]
        go_wp2_with fail
        refine (need_false kList k 4 _).mono ?_
        rintro e w6 ⟨q, rfl, hq, hF, hB6⟩
        have hB16 := Lib.hid (later' hB5.out hB6)
        replace hF := Lib.hid hF
        clear hB5 hB6
        go_wp2_with fail
        exact ⟨rfl, q, rfl, by omega, hF.out, hB16.out⟩
      · have hkl : k = m.list.length := by omega
        obtain rfl := hf2.out hkl
        clear hf1 hf2
        subst hkl
        have htl := hend.out rfl
        have k101 : wr.cell? ⟨w.heap.size, 101, none⟩ = some (.slice TA m.text.length tc) := cell_of hXr.out hC.out.text
        go_wp2_with fail
        rw [decide_eq_false (by omega)]
        refine (need_false kText 0 10 _).mono ?_
        rintro e w6 ⟨q, rfl, hq, hF, hB6⟩
        have hB16 := Lib.hid (later' hBr.out hB6)
        replace hF := Lib.hid hF
        clear hBr hB6
        go_wp2_with fail
        exact ⟨rfl, q, rfl, by omega, hF.out, hB16.out⟩
end Go.Proofs.YtmnmmabhmedioaaDoor
/- Wire: Encode of any message. -/
namespace Go.Proofs.YtmnmmabhmedioaaDoor
open Go.RowKit
set_option linter.unusedVariables false
set_option linter.unusedSimpArgs false
set_option maxRecDepth 100000

theorem restM_len {m : Msg} (hp : ∀ i, PairOk (m.list.getD i Pair.zero)) (hpp : PairOk m.pair) (hb : m.bind_.length = 32) (hs : m.share.length = 32) (hg : m.sig.length = 64) (hf : faultM m = none) : (restM m).length ≤ 1065155 := by
  have h65 := pairL_len hpp
  unfold restM
  by_cases h2 : m.kind = 2
  · rw [if_pos h2, h65]; omega
  rw [if_neg h2]
  by_cases h3 : m.kind = 3
  · rw [if_pos h3]
    have hl := pairsL_len hp
    have h : m.list.length ≤ 255 ∧ m.text.length ≤ 1048575 := by
      unfold faultM at hf
      by_cases c1 : ¬ (1 ≤ m.kind ∧ m.kind ≤ 6)
      · rw [if_pos c1] at hf; cases hf
      by_cases c2 : ¬ (0 ≤ m.from_ ∧ m.from_ ≤ 255)
      · rw [if_neg c1, if_pos c2] at hf; cases hf
      by_cases c3 : ¬ (0 ≤ m.to_ ∧ m.to_ ≤ 255)
      · rw [if_neg c1, if_neg c2, if_pos c3] at hf; cases hf
      rw [if_neg c1, if_neg c2, if_neg c3, if_neg (by omega), if_pos h3] at hf
      split at hf; · cases hf
      split at hf; · cases hf
      split at hf; · cases hf
      omega
    simp [four, hl]
    omega
  rw [if_neg h3]
  by_cases h4 : m.kind = 4
  · rw [if_pos h4]
    simp [h65, hb, hs]
  rw [if_neg h4]
  by_cases h5 : m.kind = 5
  · rw [if_pos h5]; simp [two]
  rw [if_neg h5]
  by_cases h6 : m.kind = 6
  · rw [if_pos h6]; omega
  rw [if_neg h6]
  simp
theorem MsgIn.fit {w : World} {cs : Array Value} {m : Msg} {LA : Option Addr} {lc : Nat} {TA : Option Addr} {tc : Nat} (h : MsgIn w cs m LA lc TA tc) (hf : faultM m = none) : (bodyM m).length ≤ 1065189 := by
  have h1 := restM_len h.pok ⟨h.cells.hid.1, h.cells.bnd.1⟩ h.cells.bind_.1 h.cells.share.1 h.cells.sig.1 hf
  have h2 := h.cells.session.1
  simp [bodyM]
  omega
theorem faultM_kind {m : Msg} (hf : faultM m = none) : 1 ≤ m.kind ∧ m.kind ≤ 6 := by
  unfold faultM at hf
  split at hf
  · cases hf
  · omega

theorem body_ok (cs : Array Value) (m : Msg) (LA : Option Addr) (lc : Nat) (TA : Option Addr) (tc : Nat) (w : World) (hM : MsgIn w cs m LA lc TA tc) (hf : faultM m = none) :
    Calls Tryd.prog 52 #[.agg cs] w (Body w (bodyM m).length (bodyM m)) := by
  have hk := faultM_kind hf
  unfold faultM at hf
  rw [if_neg (by omega)] at hf
  split at hf; · cases hf
  split at hf; · cases hf
  have hd : m.kind = 1 ∨ m.kind = 2 ∨ m.kind = 3 ∨ m.kind = 4 ∨ m.kind = 5 ∨ m.kind = 6 := by omega
  rcases hd with h | h | h | h | h | h
  · exact body_1 cs m LA lc TA tc w hM h (by omega) (by omega) (by omega) (by omega)
  · rw [if_pos (by omega)] at hf
    split at hf
    · exact body_2 cs m LA lc TA tc w hM h (by omega) (by omega) (by omega) (by omega) (by assumption)
    · cases hf
  · rw [if_neg (by omega), if_pos h] at hf
    split at hf; · cases hf
    split at hf; · cases hf
    split at hf; · cases hf
    exact body_3 cs m LA lc TA tc w hM h (by omega) (by omega) (by omega) (by omega) (by omega) (by assumption) (by omega)
  · rw [if_pos (by omega)] at hf
    split at hf
    · exact body_4 cs m LA lc TA tc w hM h (by omega) (by omega) (by omega) (by omega) (by assumption)
    · cases hf
  · rw [if_neg (by omega), if_neg (by omega), if_pos h] at hf
    split at hf
    · have e : bodyM m = m.session ++ [u8 m.from_, u8 m.to_] ++ two m.code.toNat := by simp [bodyM, restM, h]
      have hl : (bodyM m).length = 36 := by rw [e]; simp [two, hM.cells.session.1]
      refine (body_refuse cs m _ _ hM.cells h (by omega) (by omega) (by omega) (by omega) (by omega) (by omega) w).mono ?_
      rintro e1 w1 ⟨A, c, rfl, h2, h3⟩
      exact ⟨A, c, by rw [hl], by rw [e]; exact h2, h3⟩
    · cases hf
  · exact body_6 cs m LA lc TA tc w hM h (by omega) (by omega) (by omega) (by omega)

abbrev BodyBad (w : World) (f : FD) (e : Ending) (w' : World) : Prop := ∃ b, e = Threw b ∧ w.heap.size ≤ b ∧ FaultAt w' b f ∧ Below w.heap.size w w'
theorem body_no (cs : Array Value) (m : Msg) (LA : Option Addr) (lc : Nat) (TA : Option Addr) (tc : Nat) (w : World) (hM : MsgIn w cs m LA lc TA tc) (f : FD) (hf : faultM m = some f) :
    Calls Tryd.prog 52 #[.agg cs] w (BodyBad w f) := by
  unfold faultM at hf
  by_cases k1 : m.kind < 1
  · rw [if_pos (by omega)] at hf; cases hf
    exact bad_kind1 cs m LA lc TA tc w hM k1
  by_cases k6 : ¬ m.kind ≤ 6
  · rw [if_pos (by omega)] at hf; cases hf
    exact bad_kind2 cs m LA lc TA tc w hM k6
  rw [if_neg (by omega)] at hf
  by_cases f0 : m.from_ < 0
  · rw [if_pos (by omega)] at hf; cases hf
    exact bad_from1 cs m LA lc TA tc w hM (by omega) (by omega) f0
  by_cases f1 : ¬ m.from_ ≤ 255
  · rw [if_pos (by omega)] at hf; cases hf
    exact bad_from2 cs m LA lc TA tc w hM (by omega) (by omega) (by omega) f1
  rw [if_neg (by omega)] at hf
  by_cases t0 : m.to_ < 0
  · rw [if_pos (by omega)] at hf; cases hf
    exact bad_to1 cs m LA lc TA tc w hM (by omega) (by omega) (by omega) (by omega) t0
  by_cases t1 : ¬ m.to_ ≤ 255
  · rw [if_pos (by omega)] at hf; cases hf
    exact bad_to2 cs m LA lc TA tc w hM (by omega) (by omega) (by omega) (by omega) (by omega) t1
  rw [if_neg (by omega)] at hf
  by_cases h24 : m.kind = 2 ∨ m.kind = 4
  · rw [if_pos h24] at hf
    by_cases hi : isId m.pair.id = true
    · rw [if_pos hi] at hf; cases hf
    · rw [if_neg hi] at hf; cases hf
      rcases h24 with h | h
      · exact bad_pair2 cs m LA lc TA tc w hM h (by omega) (by omega) (by omega) (by omega) (by simpa using hi)
      · exact bad_pair4 cs m LA lc TA tc w hM h (by omega) (by omega) (by omega) (by omega) (by simpa using hi)
  rw [if_neg h24] at hf
  by_cases h3 : m.kind = 3
  · rw [if_pos h3] at hf
    by_cases hl : 255 < m.list.length
    · rw [if_pos hl] at hf; cases hf
      exact bad_count cs m LA lc TA tc w hM h3 (by omega) (by omega) (by omega) (by omega) hl
    rw [if_neg hl] at hf
    cases hb : listBad 0 m.list with
    | some i =>
      rw [hb] at hf
      cases hf
      obtain ⟨_, h1, h2, h4⟩ := listBad_lt m.list 0 i hb
      exact body_3bad cs m LA lc TA tc w hM h3 (by omega) (by omega) (by omega) (by omega) (by omega) i (by omega) (by simpa using h4) (fun _ => by simpa using h2) (fun h => by omega) _ (fun _ => rfl) (fun h => by omega)
    | none =>
      rw [hb] at hf
      have h4 := listBad_none m.list 0 hb
      by_cases ht : 1048575 < m.text.length
      · simp only [if_pos ht] at hf; cases hf
        exact body_3bad cs m LA lc TA tc w hM h3 (by omega) (by omega) (by omega) (by omega) (by omega) m.list.length (Nat.le_refl _) h4 (fun h => by omega) (fun _ => ht) _ (fun h => by omega) (fun _ => rfl)
      · simp only [if_neg ht] at hf; cases hf
  rw [if_neg h3] at hf
  by_cases h5 : m.kind = 5
  · rw [if_pos h5] at hf
    by_cases hc : 1 ≤ m.code ∧ m.code ≤ 65535
    · rw [if_pos hc] at hf; cases hf
    · rw [if_neg hc] at hf; cases hf
      by_cases c1 : m.code < 1
      · exact bad_code1 cs m LA lc TA tc w hM h5 (by omega) (by omega) (by omega) (by omega) c1
      · exact bad_code2 cs m LA lc TA tc w hM h5 (by omega) (by omega) (by omega) (by omega) (by omega) (by omega)
  rw [if_neg h5] at hf
  cases hf

theorem encode_good (cs : Array Value) (m : Msg) (LA : Option Addr) (lc : Nat) (TA : Option Addr) (tc : Nat) (w : World) (hM : MsgIn w cs m LA lc TA tc) (hf : faultM m = none) :
    Calls Tryd.prog 16 #[.agg cs] w fun e w' => ∃ A c, e = .returned (.tuple #[.slice A (14 + (bodyM m).length) c, .nilIface]) ∧ OwnB w' w.heap.size A c (frameL (u8 m.kind) (bodyM m)) ∧ Below w.heap.size w w' := by
  have hk := faultM_kind hf
  have hl := hM.fit hf
  exact encode_ok cs m _ _ hM.cells hk.1 hk.2 (bodyM m) _ rfl (by omega) w fun w1 hb => by
    exact body_ok cs m LA lc TA tc w1 (hM.on hb) hf

set_option maxHeartbeats 8000000 in
theorem encode_bad (cs : Array Value) (m : Msg) (LA : Option Addr) (lc : Nat) (TA : Option Addr) (tc : Nat) (w : World) (hM : MsgIn w cs m LA lc TA tc) (f : FD) (hf : faultM m = some f) :
    Calls Tryd.prog 16 #[.agg cs] w fun e w' => ∃ q, e = .returned (.tuple #[.slice none 0 0, errOf q]) ∧ FaultAt w' q f ∧ Below w.heap.size w w' := by
  have hC := hM.cells
  replace hM := Lib.hid hM
  replace hf := Lib.hid hf
  go_enter_defers Tryd.func16, Tryd.ntmps16
  go_upto_region 2 with fail
  have hX : ((w.alloc (.cells cs 36)).alloc (.cells #[.nilIface] 38)).heap[w.heap.size]? = some (.cells cs 36 (0, 0)) := by
    rw [heap_alloc?, if_neg (by simp)]; exact heap_alloc_new w _
  have hE : ((w.alloc (.cells cs 36)).alloc (.cells #[.nilIface] 38)).heap[w.heap.size + 1]? = some (.cells #[.nilIface] 38 (0, 0)) := by
    rw [heap_alloc?, if_pos (by simp)]
  have hB : Below w.heap.size w ((w.alloc (.cells cs 36)).alloc (.cells #[.nilIface] 38)) := later (boxed _ _) (boxed _ _)
  have hs : ((w.alloc (.cells cs 36)).alloc (.cells #[.nilIface] 38)).heap.size = w.heap.size + 2 := by simp
  generalize ((w.alloc (.cells cs 36)).alloc (.cells #[.nilIface] 38)) = w1 at hX hE hB hs ⊢
  have hif : (Tryd.prog.info? 36).map (·.size) = some cs.size := by rw [hC.size]; kernel_rfl
  replace hE := Lib.hid hE
  go_step
  refine wpList_loadW _ rfl _ _ rfl w.heap.size rfl cs _ hX _ Tryd.underlying36 rfl hif ?_
  clear hX hif
  go_wp2_with fail
  refine (body_no cs m LA lc TA tc w1 (hM.out.on hB) f hf.out).mono ?_
  rintro e w3 ⟨q, rfl, hq, hF, hB3⟩
  have hE3 := heap_on hB3 hE.out
  have hB33 := later' hB hB3
  have ce : w3.cell? ⟨w.heap.size + 1, 0, none⟩ = some .nilIface := cell_of hE3 rfl
  have cf : w3.frozen? ⟨w.heap.size + 1, 0, none⟩ = false := free_of hE3
  have hq2 : w.heap.size + 2 ≤ q := by omega
  clear hE hB hB3 hq
  replace hE3 := Lib.hid hE3
  replace hF := Lib.hid hF
  replace hB33 := Lib.hid hB33
  go_wp2_with fail
  have hEf := cell_of (heap_set (o := 0) hE3.out (errOf q)) (off := 0) rfl
  have hKf : Keep (fun k => k = w.heap.size + 1) w3 (w3.setCell ⟨w.heap.size + 1, 0, none⟩ (errOf q)) := Keep.set (fun k => k = w.heap.size + 1) _ _ _ rfl
  have hFf : FaultAt (w3.setCell ⟨w.heap.size + 1, 0, none⟩ (errOf q)) q f := hKf.heap (show ¬ q = w.heap.size + 1 by omega) hF.out
  have hBf := below_keep hB33.out hKf (fun i e => by omega) hB33.out.size
  refine leaves_cons (f := 36) (args := #[.pointer (some ⟨w.heap.size + 1, 0, none⟩)]) (by simp) (by simp [go_sem]) ?_
  refine (caught_panicking ⟨w.heap.size + 1, 0, none⟩ q .nilIface [] _ ce cf).mono ?_
  rintro e u' w'' ⟨rfl, rfl, rfl⟩
  simp [Leaves, settle, results, Tryd.results16, go_sem, hEf]
  exact ⟨hFf, hBf⟩
end Go.Proofs.YtmnmmabhmedioaaDoor
/- Wire: a frame whose sum does not fit. (Printed by gen_dec.py sum.) -/
namespace Go.Proofs.YtmnmmabhmedioaaDoor
open Go.RowKit
set_option linter.unusedVariables false
set_option linter.unusedSimpArgs false
set_option maxRecDepth 100000

theorem preL_len (kd : UInt8) (body : List UInt8) : (preL kd body).length = 10 + body.length := by simp [preL, four]; omega
theorem frame_split (kd : UInt8) (body s4 : List UInt8) : preL kd body ++ s4 = headL kd (four body.length) (body ++ s4) := by simp [preL, headL]
theorem peek_frame (b o c : Nat) (kd : UInt8) (body s4 : List UInt8) (w : World) (N L : Nat) (hk1 : 1 ≤ nb kd) (hk6 : nb kd ≤ 6) (hN : body.length = N) (hNm : N ≤ 1065189) (h4 : s4.length = 4) (hLd : 14 + N = L) (hc : L ≤ c)
    (hb : Bs w (some ⟨b, o, none⟩) (preL kd body ++ s4)) :
    Calls Tryd.prog 37 #[.slice (some ⟨b, o, none⟩) L c] w fun e w' => e = .returned (.tuple #[.int .i64 (nb kd), .int .i64 (L : Int)]) ∧ ∃ m, w' = w.drewN m := by
  rw [frame_split] at hb
  have hn : numL (four body.length) = N := by rw [numL_four _ (by omega), hN]
  have h := peek_ok b o c kd (four body.length) (body ++ s4) w rfl hk1 hk6 (by omega) (by simp; omega) (by simp; omega) hb
  rw [hn, show (body ++ s4).length = N + 4 from by simp [hN, h4], show 10 + (N + 4) = L from by omega] at h
  rw [show (10 : Int) + (N : Int) + 4 = (L : Int) from by omega] at h
  exact h

set_option maxHeartbeats 8000000 in
theorem decode_sumbad (b o c : Nat) (kd : UInt8) (body s4 : List UInt8) (w : World) (N L Q : Nat) (hk1 : 1 ≤ nb kd) (hk6 : nb kd ≤ 6) (hN : body.length = N) (hNm : N ≤ 1065189) (h4 : s4.length = 4) (hLd : 14 + N = L) (hQd : 10 + N = Q) (hc : L ≤ c) (hlt : b < w.heap.size) (hsum4 : s4 ≠ (sha (preL kd body)).take 4)
    (hb : Bs w (some ⟨b, o, none⟩) (preL kd body ++ s4)) :
    Calls Tryd.prog 11 #[.slice (some ⟨b, o, none⟩) L c] w fun e w' => ∃ q, e = .returned (.tuple #[.agg Tryd.zeroCells36, errOf q]) ∧ FaultAt w' q ⟨kSum, (Q : Int), 103⟩ ∧ Below w.heap.size w w' := by
  have hpl : (preL kd body).length = Q := by rw [preL_len]; omega
  replace hb := Lib.hid hb
  go_enter_defers Tryd.func11, Tryd.ntmps11
  go_upto_region 2 with fail
  have hZ : ((w.alloc (.cells Tryd.zeroCells36 36)).alloc (.cells #[.nilIface] 38)).heap[w.heap.size]? = some (.cells Tryd.zeroCells36 36 (0, 0)) := by
    rw [heap_alloc?, if_neg (by simp)]; exact heap_alloc_new w _
  have hE : ((w.alloc (.cells Tryd.zeroCells36 36)).alloc (.cells #[.nilIface] 38)).heap[w.heap.size + 1]? = some (.cells #[.nilIface] 38 (0, 0)) := by
    rw [heap_alloc?, if_pos (by simp)]
  have hB : Below w.heap.size w ((w.alloc (.cells Tryd.zeroCells36 36)).alloc (.cells #[.nilIface] 38)) := later (boxed _ _) (boxed _ _)
  have hsz : ((w.alloc (.cells Tryd.zeroCells36 36)).alloc (.cells #[.nilIface] 38)).heap.size = w.heap.size + 2 := by simp
  generalize ((w.alloc (.cells Tryd.zeroCells36 36)).alloc (.cells #[.nilIface] 38)) = w1 at hZ hE hB hsz ⊢
  have hb1 := hb.out.on hB
  replace hZ := Lib.hid hZ
  replace hE := Lib.hid hE
  go_wp2_with fail
  refine (peek_frame b o c kd body s4 w1 N L hk1 hk6 hN hNm h4 hLd hc hb1).mono ?_
  rintro e w2 ⟨rfl, md, hw2⟩
  have hb2 : Bs w2 (some ⟨b, o, none⟩) (preL kd body ++ s4) := by rw [hw2]; exact hb1
  have hB2 : Below w.heap.size w w2 := by rw [hw2]; exact below_drewN hB md
  have hs2 : w2.heap.size = w.heap.size + 2 := by rw [hw2]; exact hsz
  have hZ2 : w2.heap[w.heap.size]? = some (.cells Tryd.zeroCells36 36 (0, 0)) := by rw [hw2]; exact hZ.out
  have hE2 : w2.heap[w.heap.size + 1]? = some (.cells #[.nilIface] 38 (0, 0)) := by rw [hw2]; exact hE.out
  have hbp : Bs w2 (some ⟨b, o, none⟩) (preL kd body) := by
    have h := hb2.take Q
    rw [List.take_append_of_le_length (by omega), List.take_of_length_le (by omega)] at h
    exact h
  replace hZ2 := Lib.hid hZ2
  replace hE2 := Lib.hid hE2
  replace hb2 := Lib.hid hb2
  replace hbp := Lib.hid hbp
  replace hB2 := Lib.hid hB2
  have hcQ : (Q : Int) ≤ (c : Int) := by omega
  have hcL : (L : Int) ≤ (c : Int) := by omega
  have hwQ : wrap64 ((L : Int) - 4) = (Q : Int) := by rw [IntWalk.wrap64_in _ ⟨by omega, by omega⟩]; omega
  have hq0 : (0 : Int) ≤ (Q : Int) := by omega
  have hL4 : L - 4 = Q := by omega
  have hL4i : (L : Int) - 4 = (Q : Int) := by omega
  clear hw2 hZ hE hB hsz hb1 hb
  go_wp2_with fail
  refine (need_same _ _ _ _).mono ?_
  rintro e w' ⟨rfl, rfl⟩
  go_wp2_with fail
  refine (need_same _ _ _ _).mono ?_
  rintro e w2 ⟨rfl, rfl⟩
  go_wp2_with fail
  have hsum := sum1_any b o c (preL kd body) w2 (by omega) (by omega) hbp.out (by omega)
  rw [hpl] at hsum
  refine hsum.mono ?_
  rintro e w3 ⟨rfl, hB3⟩
  clear hsum
  rename_i hK
  have hs3 := hB3.size
  have hD := sha_length (preL kd body)
  have hb3 := hb2.out.on hB3
  have hfx : ∀ i, i < 4 → (preL kd body ++ s4).getD (Q + i) 0 = s4.getD i 0 := fun i hi => by
    rw [List.getD_eq_getElem?_getD, List.getElem?_append_right (by omega), hpl, show Q + i - Q = i from by omega, ← List.getD_eq_getElem?_getD]
  have hcl := fun i (hi : i < 4) => hb3.at (Q + i) (by simp [h4]; omega)
  have x0 : w3.cell? ⟨b, o + Q, none⟩ = some (B8 (s4.getD 0 0)) := by rw [← hfx 0 (by omega)]; exact hcl 0 (by omega)
  have x1 : w3.cell? ⟨b, o + Q + 1, none⟩ = some (B8 (s4.getD 1 0)) := by rw [← hfx 1 (by omega)]; exact hcl 1 (by omega)
  have x2 : w3.cell? ⟨b, o + Q + 2, none⟩ = some (B8 (s4.getD 2 0)) := by rw [← hfx 2 (by omega)]; exact hcl 2 (by omega)
  have x3 : w3.cell? ⟨b, o + Q + 3, none⟩ = some (B8 (s4.getD 3 0)) := by rw [← hfx 3 (by omega)]; exact hcl 3 (by omega)
  have hsz : ((sha (preL kd body)).map B8).toArray.size = 64 := by rw [List.size_toArray, List.length_map, hD]
  have hone : ((sha (preL kd body)).map B8).toArray.all (·.oneCell') = true := all_oneCell_toArray one_bytes
  have hget : ∀ i, i < 64 → ((sha (preL kd body)).map B8).toArray[i]? = some (B8 ((sha (preL kd body)).getD i 0)) := fun i hi => by
    rw [List.getElem?_toArray, List.getElem?_map, List.getD_eq_getElem?_getD, List.getElem?_eq_getElem (show i < (sha (preL kd body)).length by omega)]
    rfl
  clear hfx hcl hbp hb2
  have hb3 := Lib.hid hb3
  have hZ3 := Lib.hid (heap_on hB3 hZ2.out)
  have hE3 := Lib.hid (heap_on hB3 hE2.out)
  have hB33 := Lib.hid (later' hB2.out hB3)
  clear hZ2 hE2 hB2 hB3
  refine hK _ _ ?_
  clear hK
  generalize ((sha (preL kd body)).map B8).toArray = DA at hsz hone hget ⊢
  generalize (sha (preL kd body)) = S at hget hD hsum4
  have hif : (Tryd.prog.info? 97).map (·.size) = some DA.size := by rw [hsz]; kernel_rfl
  refine wpList_value (w' := w3.alloc (.cells z64 97)) rfl (.pointer (some ⟨w3.heap.size, 0, none⟩)) (by kernel_rfl) ?_
  refine wpList_skips (w' := w3.alloc (.cells DA 97)) rfl ?_ ?_
  · have h := run_storeAt_new (P := Tryd.prog) w3 97 z64 DA hif (by rw [hsz]; rfl) hone
    show (Instr.storeAt 97 (.pointer (some ⟨w3.heap.size, 0, none⟩)) (.agg DA) >>= fun _ => pure Next.skip : Sem Next).run Tryd.prog _ = _
    simp only [Sem.run_bind, h, Result.andThen, Sem.run_pure]
  refine wpList_nil ?_
  simp only [Act.put]
  have hDn := heap_alloc_new w3 (.cells DA 97)
  have hB34 := boxed w3 (.cells DA 97)
  have y0 : (w3.alloc (.cells DA 97)).cell? ⟨w3.heap.size, 0, none⟩ = some (B8 (S.getD 0 0)) := cell_of hDn (hget 0 (by omega))
  have y1 : (w3.alloc (.cells DA 97)).cell? ⟨w3.heap.size, 1, none⟩ = some (B8 (S.getD 1 0)) := cell_of hDn (hget 1 (by omega))
  have y2 : (w3.alloc (.cells DA 97)).cell? ⟨w3.heap.size, 2, none⟩ = some (B8 (S.getD 2 0)) := cell_of hDn (hget 2 (by omega))
  have y3 : (w3.alloc (.cells DA 97)).cell? ⟨w3.heap.size, 3, none⟩ = some (B8 (S.getD 3 0)) := cell_of hDn (hget 3 (by omega))
  have x0 := cell_on hB34 x0
  have x1 := cell_on hB34 x1
  have x2 := cell_on hB34 x2
  have x3 := cell_on hB34 x3
  have hb4 := Lib.hid (hb3.out.on hB34)
  have hZ4 := Lib.hid (heap_on hB34 hZ3.out)
  have hE4 := Lib.hid (heap_on hB34 hE3.out)
  have hB44 := Lib.hid (later' hB33.out hB34)
  have hs4 : (w3.alloc (.cells DA 97)).heap.size = w3.heap.size + 1 := by simp
  clear hDn hB34 hget hone hif hsz hZ3 hE3 hB33 hb3
  generalize w3.alloc (.cells DA 97) = w4 at *
  have hnot : ([S.getD 0 0, S.getD 1 0, S.getD 2 0, S.getD 3 0] == [s4.getD 0 0, s4.getD 1 0, s4.getD 2 0, s4.getD 3 0]) = false := by
    refine beq_eq_false_iff_ne.2 fun e => hsum4 ?_
    match s4, h4 with
    | [p0, p1, p2, p3], _ =>
      have h1 : S.take 4 = [S.getD 0 0, S.getD 1 0, S.getD 2 0, S.getD 3 0] := by
        match S, hD with
        | u0 :: u1 :: u2 :: u3 :: r, _ => simp
      rw [h1, e]
      simp
  replace hsum4 := Lib.hid hsum4
  clear hD
  generalize S.getD 0 0 = q0 at *
  generalize S.getD 1 0 = q1 at *
  generalize S.getD 2 0 = q2 at *
  generalize S.getD 3 0 = q3 at *
  generalize s4.getD 0 0 = p0 at *
  generalize s4.getD 1 0 = p1 at *
  generalize s4.getD 2 0 = p2 at *
  generalize s4.getD 3 0 = p3 at *
  have ha4 := arrAt4
  have he4 := eql4 q0 q1 q2 q3 p0 p1 p2 p3
  rw [hnot] at he4
  have hc1 : ¬ (c = Q) := by omega
  have hwQ2 : IntKind.i64.wrap (Q : Int) = (Q : Int) := by rw [IntKind.wrap_i64]; omega
  have hc2 : (4 : Int) ≤ ((c - Q : Nat) : Int) := by omega
  have hLQ : L - Q = 4 := by omega
  have hQL : (Q : Int) ≤ (L : Int) := by omega
  clear hnot
  go_wp2_with fail
  go_still_tail 12, (by kernel_rfl)
  change wpList _ _ _ _ _ w4.drew
  have hZ2 : Hid (w4.drew.heap[w.heap.size]? = some (.cells Tryd.zeroCells36 36 (0, 0))) := Lib.hid hZ4.out
  have hE2 : Hid (w4.drew.heap[w.heap.size + 1]? = some (.cells #[.nilIface] 38 (0, 0))) := Lib.hid hE4.out
  have hB2 : Hid (Below w.heap.size w w4.drew) := Lib.hid hB44.out.drew
  have hs2' : w.heap.size + 2 ≤ w4.drew.heap.size := by simp; omega
  clear hZ4 hE4 hB44 hb4 x0 x1 x2 x3 y0 y1 y2 y3 ha4 he4
  generalize w4.drew = w5 at hZ2 hE2 hB2 hs2' ⊢
  go_wp2_with fail
  refine (need_false kSum (Q : Int) 103 _).mono ?_
  rintro e w6 ⟨q, rfl, hq, hF, hBn⟩
  have hE3 := heap_on hBn hE2.out
  have hZ3 := heap_on hBn hZ2.out
  have hB33 := later' hB2.out hBn
  have ce : w6.cell? ⟨w.heap.size + 1, 0, none⟩ = some .nilIface := cell_of hE3 rfl
  have cf : w6.frozen? ⟨w.heap.size + 1, 0, none⟩ = false := free_of hE3
  have hq2 : w.heap.size + 2 ≤ q := by omega
  clear hZ2 hE2 hB2 hBn hq
  replace hE3 := Lib.hid hE3
  replace hZ3 := Lib.hid hZ3
  replace hF := Lib.hid hF
  replace hB33 := Lib.hid hB33
  go_wp2_with fail
  have hEf := cell_of (heap_set (o := 0) hE3.out (errOf q)) (off := 0) rfl
  have hKf : Keep (fun k => k = w.heap.size + 1) w6 (w6.setCell ⟨w.heap.size + 1, 0, none⟩ (errOf q)) := Keep.set (fun k => k = w.heap.size + 1) _ _ _ rfl
  have hZf := hKf.heap (show ¬ w.heap.size = w.heap.size + 1 by omega) hZ3.out
  have hFf : FaultAt (w6.setCell ⟨w.heap.size + 1, 0, none⟩ (errOf q)) q ⟨kSum, (Q : Int), 103⟩ := hKf.heap (show ¬ q = w.heap.size + 1 by omega) hF.out
  have hBf := below_keep hB33.out hKf (fun i e => by omega) hB33.out.size
  have hif : (Tryd.prog.info? 36).map (·.size) = some Tryd.zeroCells36.size := by kernel_rfl
  have hL := run_loadVar_row (P := Tryd.prog) _ w.heap.size 36 36 _ (0, 0) _ hZf Tryd.underlying36 rfl hif
  have hL2 : (loadVar 38 ⟨w.heap.size + 1, 0, none⟩).run Tryd.prog (w6.setCell ⟨w.heap.size + 1, 0, none⟩ (errOf q)) = .ok (errOf q) (w6.setCell ⟨w.heap.size + 1, 0, none⟩ (errOf q)) := by simp [go_sem, hEf]
  refine leaves_cons (f := 36) (args := #[.pointer (some ⟨w.heap.size + 1, 0, none⟩)]) (by simp) (by simp [go_sem]) ?_
  refine (caught_panicking ⟨w.heap.size + 1, 0, none⟩ q .nilIface [] _ ce cf).mono ?_
  rintro e u' w'' ⟨rfl, rfl, rfl⟩
  exact ⟨_, results_cell2 rfl _ _ ⟨w.heap.size, 0, none⟩ ⟨w.heap.size + 1, 0, none⟩ (.agg Tryd.zeroCells36) (errOf q) rfl rfl hL hL2, q, rfl, hFf, hBf⟩

end Go.Proofs.YtmnmmabhmedioaaDoor
/- Wire: the reference's Check is the message's first fault. (Printed by gen_check.py.) -/
namespace Go.Proofs.YtmnmmabhmedioaaDoor
open Go.RowKit
set_option linter.unusedVariables false
set_option linter.unusedSimpArgs false
set_option maxRecDepth 100000

def fdA : Option FD → Array Value
  | none => #[.string ⟨#[]⟩, .int .i64 0, .int .i64 0]
  | some f => #[.string ⟨f.field.toArray⟩, .int .i64 f.at_, .int .i64 f.why]
theorem pairAt_id {w : World} {b o : Nat} {p : Pair} (h : RowAt w b o (pairA p)) : w.cell? ⟨b, o, none⟩ = some (.int .i64 p.id) :=
  h 0 _ (by unfold pairA; rw [Array.append_assoc, Array.getElem?_append_left (by simp)]; rfl)
theorem listBad_at : ∀ (ps : List Pair) (i k : Nat), k < ps.length → (∀ j, j < k → isId (ps.getD j Pair.zero).id = true) → isId (ps.getD k Pair.zero).id = false → listBad i ps = some (i + k)
  | [], i, k, h, _, _ => by simp at h
  | p :: r, i, 0, h, _, h2 => by
    have h2 : isId p.id = false := by simpa using h2
    simp [listBad, h2]
  | p :: r, i, k + 1, h, h1, h2 => by
    have h0 : isId p.id = true := by simpa using h1 0 (by omega)
    have := listBad_at r (i + 1) k (by simpa using h) (fun j hj => by simpa using h1 (j + 1) (by omega)) (by simpa using h2)
    simp [listBad, h0, this]
    omega
theorem listBad_all : ∀ (ps : List Pair) (i : Nat), (∀ j, j < ps.length → isId (ps.getD j Pair.zero).id = true) → listBad i ps = none
  | [], i, _ => rfl
  | p :: r, i, h => by
    have h0 : isId p.id = true := by simpa using h 0 (by simp)
    simp [listBad, h0, listBad_all r (i + 1) (fun j hj => by simpa using h (j + 1) (by simp; omega))]

set_option maxHeartbeats 8000000 in
theorem check_any (cs : Array Value) (m : Msg) (LA : Option Addr) (lc : Nat) (TA : Option Addr) (tc : Nat) (w : World) (hM : MsgIn w cs m LA lc TA tc) :
    Calls Tryd.prog 17 #[.agg cs] w fun e w' => e = .returned (.agg (fdA (faultM m))) ∧ Below w.heap.size w w' := by
  have hX : ((w.alloc (.cells cs 36)).alloc (.cells #[.string ⟨#[]⟩, .int .i64 0, .int .i64 0] 42)).heap[w.heap.size]? = some (.cells cs 36 (0, 0)) := by
    rw [heap_alloc?, if_neg (by simp)]; exact heap_alloc_new w _
  have hB : Below w.heap.size w ((w.alloc (.cells cs 36)).alloc (.cells #[.string ⟨#[]⟩, .int .i64 0, .int .i64 0] 42)) := later (boxed _ _) (boxed _ _)
  have hC := hM.cells
  have k0 := cell_of hX hC.kind
  have k33 := cell_of hX hC.from_
  have k34 := cell_of hX hC.to_
  have k35 := cell_of hX hC.pid
  have k100 := cell_of hX hC.list
  have k101 := cell_of hX hC.text
  have k230 := cell_of hX hC.code
  have hPs := Lib.hid (hM.list.on hB)
  replace hB := Lib.hid hB
  replace hC := Lib.hid hC
  replace hM := Lib.hid hM
  clear hX
  by_cases a1 : m.kind < 1
  · have hf : faultM m = some ⟨kKind, 0, 152⟩ := by
      unfold faultM
      rw [if_pos (by omega)]
    replace hf := Lib.hid hf
    go_enter Tryd.func17, Tryd.ntmps17
    go_wp2
    refine bodyPost_ret (v := .agg (fdA (faultM m))) ?_ rfl ⟨rfl, later (boxed _ _) (boxed _ _)⟩
    rw [hf.out]
    simp [results, Tryd.results17, go_sem, fdA, kKind, kFrom, kTo, kPair, kList, kText, kCode]
  by_cases a2 : 6 < m.kind
  · have hf : faultM m = some ⟨kKind, 0, 152⟩ := by
      unfold faultM
      rw [if_pos (by omega)]
    replace hf := Lib.hid hf
    go_enter Tryd.func17, Tryd.ntmps17
    go_wp2
    refine bodyPost_ret (v := .agg (fdA (faultM m))) ?_ rfl ⟨rfl, later (boxed _ _) (boxed _ _)⟩
    rw [hf.out]
    simp [results, Tryd.results17, go_sem, fdA, kKind, kFrom, kTo, kPair, kList, kText, kCode]
  by_cases b1 : m.from_ < 0
  · have hf : faultM m = some ⟨kFrom, 0, 4⟩ := by
      unfold faultM
      rw [if_neg (by omega), if_pos (by omega)]
    replace hf := Lib.hid hf
    go_enter Tryd.func17, Tryd.ntmps17
    go_wp2
    refine bodyPost_ret (v := .agg (fdA (faultM m))) ?_ rfl ⟨rfl, later (boxed _ _) (boxed _ _)⟩
    rw [hf.out]
    simp [results, Tryd.results17, go_sem, fdA, kKind, kFrom, kTo, kPair, kList, kText, kCode]
  by_cases b2 : 255 < m.from_
  · have hf : faultM m = some ⟨kFrom, 0, 4⟩ := by
      unfold faultM
      rw [if_neg (by omega), if_pos (by omega)]
    replace hf := Lib.hid hf
    go_enter Tryd.func17, Tryd.ntmps17
    go_wp2
    refine bodyPost_ret (v := .agg (fdA (faultM m))) ?_ rfl ⟨rfl, later (boxed _ _) (boxed _ _)⟩
    rw [hf.out]
    simp [results, Tryd.results17, go_sem, fdA, kKind, kFrom, kTo, kPair, kList, kText, kCode]
  by_cases c1 : m.to_ < 0
  · have hf : faultM m = some ⟨kTo, 0, 4⟩ := by
      unfold faultM
      rw [if_neg (by omega), if_neg (by omega), if_pos (by omega)]
    replace hf := Lib.hid hf
    go_enter Tryd.func17, Tryd.ntmps17
    go_wp2
    refine bodyPost_ret (v := .agg (fdA (faultM m))) ?_ rfl ⟨rfl, later (boxed _ _) (boxed _ _)⟩
    rw [hf.out]
    simp [results, Tryd.results17, go_sem, fdA, kKind, kFrom, kTo, kPair, kList, kText, kCode]
  by_cases c2 : 255 < m.to_
  · have hf : faultM m = some ⟨kTo, 0, 4⟩ := by
      unfold faultM
      rw [if_neg (by omega), if_neg (by omega), if_pos (by omega)]
    replace hf := Lib.hid hf
    go_enter Tryd.func17, Tryd.ntmps17
    go_wp2
    refine bodyPost_ret (v := .agg (fdA (faultM m))) ?_ rfl ⟨rfl, later (boxed _ _) (boxed _ _)⟩
    rw [hf.out]
    simp [results, Tryd.results17, go_sem, fdA, kKind, kFrom, kTo, kPair, kList, kText, kCode]
  have hd : m.kind = 1 ∨ m.kind = 2 ∨ m.kind = 3 ∨ m.kind = 4 ∨ m.kind = 5 ∨ m.kind = 6 := by omega
  rcases hd with hk | hk | hk | hk | hk | hk
  all_goals
    rw [hk] at k0
    clear a1 a2
  · have hf : faultM m = none := by
      unfold faultM
      rw [if_neg (by omega), if_neg (by omega), if_neg (by omega), if_neg (by omega), if_neg (by omega), if_neg (by omega)]
    replace hf := Lib.hid hf
    go_enter Tryd.func17, Tryd.ntmps17
    go_wp2
    refine bodyPost_ret (v := .agg (fdA (faultM m))) ?_ rfl ⟨rfl, later (boxed _ _) (boxed _ _)⟩
    rw [hf.out]
    simp [results, Tryd.results17, go_sem, fdA, kKind, kFrom, kTo, kPair, kList, kText, kCode]
  · by_cases d1 : m.pair.id < 1
    · have hf : faultM m = some ⟨kPair, 0, 4⟩ := by
        unfold faultM
        rw [if_neg (by omega), if_neg (by omega), if_neg (by omega), if_pos (by omega), if_neg (by simp [isId]; omega)]
      replace hf := Lib.hid hf
      go_enter Tryd.func17, Tryd.ntmps17
      go_wp2
      refine bodyPost_ret (v := .agg (fdA (faultM m))) ?_ rfl ⟨rfl, later (boxed _ _) (boxed _ _)⟩
      rw [hf.out]
      simp [results, Tryd.results17, go_sem, fdA, kKind, kFrom, kTo, kPair, kList, kText, kCode]
    by_cases d2 : 255 < m.pair.id
    · have hf : faultM m = some ⟨kPair, 0, 4⟩ := by
        unfold faultM
        rw [if_neg (by omega), if_neg (by omega), if_neg (by omega), if_pos (by omega), if_neg (by simp [isId]; omega)]
      replace hf := Lib.hid hf
      go_enter Tryd.func17, Tryd.ntmps17
      go_wp2
      refine bodyPost_ret (v := .agg (fdA (faultM m))) ?_ rfl ⟨rfl, later (boxed _ _) (boxed _ _)⟩
      rw [hf.out]
      simp [results, Tryd.results17, go_sem, fdA, kKind, kFrom, kTo, kPair, kList, kText, kCode]
    · have hf : faultM m = none := by
        unfold faultM
        rw [if_neg (by omega), if_neg (by omega), if_neg (by omega), if_pos (by omega), if_pos (by simp [isId]; omega)]
      replace hf := Lib.hid hf
      go_enter Tryd.func17, Tryd.ntmps17
      go_wp2
      refine bodyPost_ret (v := .agg (fdA (faultM m))) ?_ rfl ⟨rfl, later (boxed _ _) (boxed _ _)⟩
      rw [hf.out]
      simp [results, Tryd.results17, go_sem, fdA, kKind, kFrom, kTo, kPair, kList, kText, kCode]
  · by_cases d1 : 255 < m.list.length
    · have hf : faultM m = some ⟨kList, 0, 8⟩ := by
        unfold faultM
        rw [if_neg (by omega), if_neg (by omega), if_neg (by omega), if_neg (by omega), if_pos (by omega), if_pos d1]
      replace hf := Lib.hid hf
      go_enter Tryd.func17, Tryd.ntmps17
      go_wp2
      refine bodyPost_ret (v := .agg (fdA (faultM m))) ?_ rfl ⟨rfl, later (boxed _ _) (boxed _ _)⟩
      rw [hf.out]
      simp [results, Tryd.results17, go_sem, fdA, kKind, kFrom, kTo, kPair, kList, kText, kCode]
    have d2 : m.list.length ≤ 255 := by omega
    go_enter Tryd.func17, Tryd.ntmps17
    go_wp2
    go_loop [3] (fun i => ∃ k : Nat, k ≤ m.list.length ∧ i = .int .i64 k ∧ Hid (∀ j, j < k → isId (m.list.getD j Pair.zero).id = true)) (fun i => m.list.length - (intOf i).toNat)
    case atStart => exact ⟨0, Nat.zero_le _, rfl, Lib.hid fun j hj => absurd hj (by omega)⟩
    case round =>
      obtain ⟨k, hk1, rfl, hall⟩ := hrel
      rcases Nat.lt_or_ge k m.list.length with hlt | hge
      · obtain ⟨b, o, rfl, hc⟩ := hPs.out (by omega)
        have c0 := pairAt_id (hc k hlt)
        clear hc
        have q1 : (0 : Int) ≤ (k : Int) := by omega
        have q2 : (k : Int) < (m.list.length : Int) := by omega
        by_cases e1 : (m.list.getD k Pair.zero).id < 1
        · have hf : faultM m = some ⟨kList, k, 4⟩ := by
            unfold faultM
            rw [if_neg (by omega), if_neg (by omega), if_neg (by omega), if_neg (by omega), if_pos (by omega), if_neg d1, listBad_at m.list 0 k hlt hall.out (isId_false.2 (by omega)), Nat.zero_add]
          replace hf := Lib.hid hf
          generalize (m.list.getD k Pair.zero).id = x at c0 e1
          go_wp2
          refine bodyPost_ret (v := .agg (fdA (faultM m))) ?_ rfl ⟨rfl, later (boxed _ _) (boxed _ _)⟩
          rw [hf.out]
          simp [results, Tryd.results17, go_sem, fdA, kList]
        by_cases e2 : 255 < (m.list.getD k Pair.zero).id
        · have hf : faultM m = some ⟨kList, k, 4⟩ := by
            unfold faultM
            rw [if_neg (by omega), if_neg (by omega), if_neg (by omega), if_neg (by omega), if_pos (by omega), if_neg d1, listBad_at m.list 0 k hlt hall.out (isId_false.2 (by omega)), Nat.zero_add]
          replace hf := Lib.hid hf
          generalize (m.list.getD k Pair.zero).id = x at c0 e1 e2
          go_wp2
          refine bodyPost_ret (v := .agg (fdA (faultM m))) ?_ rfl ⟨rfl, later (boxed _ _) (boxed _ _)⟩
          rw [hf.out]
          simp [results, Tryd.results17, go_sem, fdA, kList]
        · have hall2 : Hid (∀ j, j < k + 1 → isId (m.list.getD j Pair.zero).id = true) := Lib.hid fun j hj => by
            by_cases h : j < k
            · exact hall.out j h
            · obtain rfl : j = k := by omega
              simp [isId]
              simp only [List.getD_eq_getElem?_getD] at e1 e2
              omega
          generalize (m.list.getD k Pair.zero).id = x at c0 e1 e2
          go_wp2
          go_round
          case rel => exact ⟨k + 1, by omega, by go_num, hall2⟩
          case measure => simp [intOf]; omega
      · have : k = m.list.length := by omega
        subst this
        have hno := listBad_all m.list 0 hall.out
        by_cases e1 : 1048575 < m.text.length
        · have hf : faultM m = some ⟨kText, 0, 10⟩ := by
            unfold faultM
            rw [if_neg (by omega), if_neg (by omega), if_neg (by omega), if_neg (by omega), if_pos (by omega), if_neg d1, hno]
            simp [e1]
          replace hf := Lib.hid hf
          replace hno := Lib.hid hno
          go_wp2
          refine bodyPost_ret (v := .agg (fdA (faultM m))) ?_ rfl ⟨rfl, later (boxed _ _) (boxed _ _)⟩
          rw [hf.out]
          simp [results, Tryd.results17, go_sem, fdA, kText]
        · have hf : faultM m = none := by
            unfold faultM
            rw [if_neg (by omega), if_neg (by omega), if_neg (by omega), if_neg (by omega), if_pos (by omega), if_neg d1, hno]
            simp [e1]
          replace hf := Lib.hid hf
          replace hno := Lib.hid hno
          go_wp2
          refine bodyPost_ret (v := .agg (fdA (faultM m))) ?_ rfl ⟨rfl, later (boxed _ _) (boxed _ _)⟩
          rw [hf.out]
          simp [results, Tryd.results17, go_sem, fdA]
  · by_cases d1 : m.pair.id < 1
    · have hf : faultM m = some ⟨kPair, 0, 4⟩ := by
        unfold faultM
        rw [if_neg (by omega), if_neg (by omega), if_neg (by omega), if_pos (by omega), if_neg (by simp [isId]; omega)]
      replace hf := Lib.hid hf
      go_enter Tryd.func17, Tryd.ntmps17
      go_wp2
      refine bodyPost_ret (v := .agg (fdA (faultM m))) ?_ rfl ⟨rfl, later (boxed _ _) (boxed _ _)⟩
      rw [hf.out]
      simp [results, Tryd.results17, go_sem, fdA, kKind, kFrom, kTo, kPair, kList, kText, kCode]
    by_cases d2 : 255 < m.pair.id
    · have hf : faultM m = some ⟨kPair, 0, 4⟩ := by
        unfold faultM
        rw [if_neg (by omega), if_neg (by omega), if_neg (by omega), if_pos (by omega), if_neg (by simp [isId]; omega)]
      replace hf := Lib.hid hf
      go_enter Tryd.func17, Tryd.ntmps17
      go_wp2
      refine bodyPost_ret (v := .agg (fdA (faultM m))) ?_ rfl ⟨rfl, later (boxed _ _) (boxed _ _)⟩
      rw [hf.out]
      simp [results, Tryd.results17, go_sem, fdA, kKind, kFrom, kTo, kPair, kList, kText, kCode]
    · have hf : faultM m = none := by
        unfold faultM
        rw [if_neg (by omega), if_neg (by omega), if_neg (by omega), if_pos (by omega), if_pos (by simp [isId]; omega)]
      replace hf := Lib.hid hf
      go_enter Tryd.func17, Tryd.ntmps17
      go_wp2
      refine bodyPost_ret (v := .agg (fdA (faultM m))) ?_ rfl ⟨rfl, later (boxed _ _) (boxed _ _)⟩
      rw [hf.out]
      simp [results, Tryd.results17, go_sem, fdA, kKind, kFrom, kTo, kPair, kList, kText, kCode]
  · by_cases d1 : m.code < 1
    · have hf : faultM m = some ⟨kCode, 0, 1⟩ := by
        unfold faultM
        rw [if_neg (by omega), if_neg (by omega), if_neg (by omega), if_neg (by omega), if_neg (by omega), if_pos (by omega), if_neg (by omega)]
      replace hf := Lib.hid hf
      go_enter Tryd.func17, Tryd.ntmps17
      go_wp2
      refine bodyPost_ret (v := .agg (fdA (faultM m))) ?_ rfl ⟨rfl, later (boxed _ _) (boxed _ _)⟩
      rw [hf.out]
      simp [results, Tryd.results17, go_sem, fdA, kKind, kFrom, kTo, kPair, kList, kText, kCode]
    by_cases d2 : 65535 < m.code
    · have hf : faultM m = some ⟨kCode, 0, 1⟩ := by
        unfold faultM
        rw [if_neg (by omega), if_neg (by omega), if_neg (by omega), if_neg (by omega), if_neg (by omega), if_pos (by omega), if_neg (by omega)]
      replace hf := Lib.hid hf
      go_enter Tryd.func17, Tryd.ntmps17
      go_wp2
      refine bodyPost_ret (v := .agg (fdA (faultM m))) ?_ rfl ⟨rfl, later (boxed _ _) (boxed _ _)⟩
      rw [hf.out]
      simp [results, Tryd.results17, go_sem, fdA, kKind, kFrom, kTo, kPair, kList, kText, kCode]
    · have hf : faultM m = none := by
        unfold faultM
        rw [if_neg (by omega), if_neg (by omega), if_neg (by omega), if_neg (by omega), if_neg (by omega), if_pos (by omega), if_pos (by omega)]
      replace hf := Lib.hid hf
      go_enter Tryd.func17, Tryd.ntmps17
      go_wp2
      refine bodyPost_ret (v := .agg (fdA (faultM m))) ?_ rfl ⟨rfl, later (boxed _ _) (boxed _ _)⟩
      rw [hf.out]
      simp [results, Tryd.results17, go_sem, fdA, kKind, kFrom, kTo, kPair, kList, kText, kCode]
  · have hf : faultM m = none := by
      unfold faultM
      rw [if_neg (by omega), if_neg (by omega), if_neg (by omega), if_neg (by omega), if_neg (by omega), if_neg (by omega)]
    replace hf := Lib.hid hf
    go_enter Tryd.func17, Tryd.ntmps17
    go_wp2
    refine bodyPost_ret (v := .agg (fdA (faultM m))) ?_ rfl ⟨rfl, later (boxed _ _) (boxed _ _)⟩
    rw [hf.out]
    simp [results, Tryd.results17, go_sem, fdA, kKind, kFrom, kTo, kPair, kList, kText, kCode]
end Go.Proofs.YtmnmmabhmedioaaDoor
