/- Wire: the body of a message with a list and a text. (Printed by gen_body.py three.) -/
import Derived.Test.YtmnmmabhmedioaaDoorWsD
namespace Go.Proofs.YtmnmmabhmedioaaDoor
open Go.RowKit
set_option linter.unusedVariables false
set_option linter.unusedSimpArgs false
set_option maxRecDepth 100000

theorem pairA_one (p : Pair) : (pairA p).all (·.oneCell') = true := by
  refine Array.all_eq_true_iff_forall_mem.2 fun v hv => ?_
  simp only [pairA, arrB, Array.mem_append] at hv
  rcases hv with (hv | hv) | hv
  · simp at hv; subst hv; rfl
  · simp at hv; obtain ⟨x, _, rfl⟩ := hv; rfl
  · simp at hv; obtain ⟨x, _, rfl⟩ := hv; rfl
theorem idsOk {m : Msg} (h : listBad 0 m.list = none) : ∀ j, j < m.list.length → isId (m.list.getD j Pair.zero).id = true := listBad_none m.list 0 h
set_option maxHeartbeats 16000000 in
theorem body_3 (cs : Array Value) (m : Msg) (LA : Option Addr) (lc : Nat) (TA : Option Addr) (tc : Nat) (w : World) (hM : MsgIn w cs m LA lc TA tc) (hk : m.kind = 3) (f0 : 0 ≤ m.from_) (f1 : m.from_ ≤ 255) (t0 : 0 ≤ m.to_) (t1 : m.to_ ≤ 255) (hll : m.list.length ≤ 255) (hids : listBad 0 m.list = none) (htl : m.text.length ≤ 1048575) : Calls Tryd.prog 52 #[.agg cs] w (Body w (bodyM m).length (bodyM m)) := by
  replace hids := Lib.hid (idsOk hids)
  obtain ⟨i0, hi0, hz0, hz1, hz2⟩ := info_parts inf5
  have hX := heap_alloc_new w (.cells cs 36)
  have hB := boxed w (.cells cs 36)
  have hs : (w.alloc (.cells cs 36)).heap.size = w.heap.size + 1 := by simp
  have hC := hM.cells
  have hl := hC.session.1
  go_enter Tryd.func52, Tryd.ntmps52
  go_upto_region 1 with fail
  generalize w.alloc (.cells cs 36) = w1 at hX hB hs ⊢
  have k0 : w1.cell? ⟨w.heap.size, 0, none⟩ = some (.int .i64 3) := by rw [← hk]; exact cell_of hX hC.kind
  have k33 : w1.cell? ⟨w.heap.size, 33, none⟩ = some (.int .i64 m.from_) := cell_of hX hC.from_
  have k34 : w1.cell? ⟨w.heap.size, 34, none⟩ = some (.int .i64 m.to_) := cell_of hX hC.to_
  have hS := Lib.hid (hC.session.bs hX)
  replace hX := Lib.hid hX
  replace hB := Lib.hid hB
  replace hC := Lib.hid hC
  replace hM := Lib.hid hM
  go_wp2_with fail
  refine (need_same _ _ _ _).mono ?_
  rintro e w' ⟨rfl, rfl⟩
  go_wp2_with fail
  refine (need_same _ _ _ _).mono ?_
  rintro e w' ⟨rfl, rfl⟩
  go_wp2_with fail
  refine (need_same _ _ _ _).mono ?_
  rintro e w' ⟨rfl, rfl⟩
  go_wp2_with (at_builtin; go_must (refine wpList_append_bs _ rfl _ _ 22 rfl (w.heap.size + 1) i0 Tryd.underlying22 hi0 hz0 hz1 hz2 none 0 0 [] rfl rfl (OwnB.nil _ _) (some ⟨w.heap.size, 1, none⟩) 32 32 m.session hl rfl hS.out ?q1a ?q1b ?_))
  case q1a => simp; omega
  case q1b => omega
  intro A2 c2 w2 hO2 hg2 hat2
  have hX2 := grew_box (OwnB.nil w' (w.heap.size + 1)) hg2 hX.out (by decide)
  have hB2 := Lib.hid (below_grew hB.out (OwnB.nil w' (w.heap.size + 1)) (by omega) (by omega) hg2)
  have k33 : w2.cell? ⟨w.heap.size, 33, none⟩ = some (.int .i64 m.from_) := cell_of hX2 hC.out.from_
  have k34 : w2.cell? ⟨w.heap.size, 34, none⟩ = some (.int .i64 m.to_) := cell_of hX2 hC.out.to_
  replace hX2 := Lib.hid hX2
  have hs2 : w.heap.size < w2.heap.size := heap_lt hX2.out
  have e1 := nb_u8 f0
  have e2 := nb_u8 t0
  have e3 : m.from_ % 256 = m.from_ := by omega
  have e4 : m.to_ % 256 = m.to_ := by omega
  rw [e3] at e1
  rw [e4] at e2
  have hb2 := Bs.two w2 (u8 m.from_) (u8 m.to_) 5
  rw [e1, e2] at hb2
  replace hb2 := Lib.hid hb2
  replace hO2 := Lib.hid hO2
  replace e1 := Lib.hid e1
  replace e2 := Lib.hid e2
  clear hg2 hat2 hX hB hS k0
  go_wp2_with (at_builtin; go_must (refine wpList_append_bs _ rfl _ _ 22 rfl (w.heap.size + 1) i0 Tryd.underlying22 hi0 hz0 hz1 hz2 A2 32 c2 m.session hl rfl (hO2.out.on (boxed _ _)) (some ⟨w2.heap.size, 0, none⟩) 2 2 [u8 m.from_, u8 m.to_] rfl rfl hb2.out ?q2a ?q2b ?_))
  case q2a => simp; omega
  case q2b => simp; omega
  intro A3 c3 w3 hO3 hg3 hat3
  have hX3 := grew_box (hO2.out.on (boxed _ _)) hg3 (heap_on (boxed _ _) hX2.out) (by decide)
  have hB3 := Lib.hid (below_grew (later' hB2.out (boxed _ _)) (hO2.out.on (boxed _ _)) (by omega) (by simp; omega) hg3)
  have k0 : w3.cell? ⟨w.heap.size, 0, none⟩ = some (.int .i64 3) := by rw [← hk]; exact cell_of hX3 hC.out.kind
  replace hX3 := Lib.hid hX3
  replace hO3 := Lib.hid hO3
  have hs3 : w.heap.size < w3.heap.size := heap_lt hX3.out
  have hl3 : (m.session ++ [u8 m.from_, u8 m.to_]).length = 34 := by simp [hl]
  have hr3 : Hid (bodyM m = m.session ++ [u8 m.from_, u8 m.to_] ++ restM m) := Lib.hid rfl
  generalize m.session ++ [u8 m.from_, u8 m.to_] = P at hO3 hl3 hr3 ⊢
  clear hg3 hat3 hb2 hO2 hX2 hB2 hs2
  have k100 : w3.cell? ⟨w.heap.size, 100, none⟩ = some (.slice LA m.list.length lc) := cell_of hX3.out hC.out.list
  have k101 : w3.cell? ⟨w.heap.size, 101, none⟩ = some (.slice TA m.text.length tc) := cell_of hX3.out hC.out.text
  go_wp2_with fail
  refine (need_dec (by omega) _ _ _ _).mono ?_
  rintro e w3 ⟨rfl, rfl⟩
  have hb3 := Bs.one w3 (UInt8.ofNat m.list.length) 5
  rw [show nb (UInt8.ofNat m.list.length) = (m.list.length : Int) from by rw [b8_of]; omega] at hb3
  replace hb3 := Lib.hid hb3
  go_wp2_with (at_builtin; go_must (refine wpList_append_bs _ rfl _ _ 22 rfl (w.heap.size + 1) i0 Tryd.underlying22 hi0 hz0 hz1 hz2 A3 34 c3 P hl3 rfl (hO3.out.on (boxed _ _)) (some ⟨w3.heap.size, 0, none⟩) 1 1 [UInt8.ofNat m.list.length] rfl rfl hb3.out ?q3a ?q3b ?_))
  case q3a => simp [hl3]
  case q3b => simp; omega
  intro A4 c4 w4 hO4 hg4 hat4
  have hX4 := grew_box (hO3.out.on (boxed _ _)) hg4 (heap_on (boxed _ _) hX3.out) (by decide)
  have hB4 := Lib.hid (below_grew (later' hB3.out (boxed _ _)) (hO3.out.on (boxed _ _)) (by omega) (by simp; omega) hg4)
  have k100 : w4.cell? ⟨w.heap.size, 100, none⟩ = some (.slice LA m.list.length lc) := cell_of hX4 hC.out.list
  replace hX4 := Lib.hid hX4
  replace hO4 := Lib.hid hO4
  have hs4 : w.heap.size < w4.heap.size := heap_lt hX4.out
  clear hg4 hat4 hb3 hO3 hX3 hB3
  have hPl := hM.out.pok
  replace hPl := Lib.hid hPl
  have hrel0 : Hid (OwnB w4 (w.heap.size + 1) A4 c4 (P ++ UInt8.ofNat m.list.length :: pairsL (m.list.take 0))) := Lib.hid (by simpa [pairsL] using hO4.out)
  have hpl : Hid (∀ k, k ≤ m.list.length → (pairsL (m.list.take k)).length = 65 * k) := Lib.hid fun k hk => by
    rw [pairsL_len (fun i => ?_), List.length_take, Nat.min_eq_left hk]
    rw [List.getD_eq_getElem?_getD, List.getElem?_take]
    split
    · exact hPl.out i
    · exact pair0_ok
  have hzs : Tryd.zeroCells29.size = 65 := by kernel_rfl
  replace hzs := Lib.hid hzs
  go_wp2_with fail
  go_loopw [3, 75] (fun s i wr => ∃ (k : Nat) (A : Option Addr) (c : Nat), k ≤ m.list.length ∧ i = .int .i64 k ∧ s = .slice A (35 + 65 * k) c ∧ Hid (OwnB wr (w.heap.size + 1) A c (P ++ UInt8.ofNat m.list.length :: pairsL (m.list.take k))) ∧ Hid (wr.heap[w.heap.size]? = some (.cells cs 36 (0, 0))) ∧ Hid (Below w.heap.size w wr)) (fun _ i _ => m.list.length - (intOf i).toNat)
  case atStart => exact ⟨0, A4, c4, Nat.zero_le _, rfl, rfl, hrel0, hX4, hB4⟩
  case round =>
    obtain ⟨k, Ar, cr, hk1, rfl, rfl, hOr, hXr, hBr⟩ := hrel
    clear hX4 hB4 hO4 hs4 hrel0 k100 k101 k0
    have hsr : w.heap.size < wr.heap.size := heap_lt hXr.out
    rcases Nat.lt_or_ge k m.list.length with hlt | hge
    · obtain ⟨b, o, rfl, hc⟩ := hM.out.list (by omega)
      have hRA := Lib.hid ((hc k hlt).on hBr.out)
      clear hc
      have q1 : (0 : Int) ≤ (k : Int) := by omega
      have q2 : (k : Int) < (m.list.length : Int) := by omega
      have hpk := Lib.hid (hPl.out k)
      have hidk := Lib.hid (hids.out k hlt)
      have hts := Lib.hid (pairsL_take_succ hlt)
      have hlk : Hid ((P ++ UInt8.ofNat m.list.length :: pairsL (m.list.take k)).length = 35 + 65 * k) := Lib.hid (by
        have := hpl.out k hk1
        simp [hl3] at this ⊢
        omega)
      generalize m.list.getD k Pair.zero = pk at hRA hpk hidk hts
      have hifP : (Tryd.prog.info? 29).map (·.size) = some (pairA pk).size := by rw [pairA_size hpk.out]; kernel_rfl
      have hzc : Tryd.zeroCells29.size = (pairA pk).size := by rw [pairA_size hpk.out]; exact hzs.out
      have hone : (pairA pk).all (·.oneCell') = true := pairA_one pk
      have hz := Lib.hid (heap_alloc_new wr (.cells Tryd.zeroCells29 29))
      have hrow : (wr.alloc (.cells Tryd.zeroCells29 29)).setRow wr.heap.size (pairA pk) = wr.alloc (.cells (pairA pk) 29) := World.setRow_alloc_new _ _ _ _
      replace hrow := Lib.hid hrow
      go_upto_region 16 with (first | (refine wpList_loadM _ rfl _ _ rfl b (o + k * 65) rfl (pairA pk) hRA.out _ Tryd.underlying29 rfl hifP ?_) | (refine wpList_storeW _ rfl _ _ _ rfl wr.heap.size (pairA pk) rfl rfl _ _ hz.out hifP hzc hone ?_))
      rw [hrow.out]
      have hP5 := heap_alloc_new wr (.cells (pairA pk) 29)
      have hX5 := Lib.hid (heap_on (boxed wr (.cells (pairA pk) 29)) hXr.out)
      have hB5 := Lib.hid (later' hBr.out (boxed wr (.cells (pairA pk) 29)))
      have hO5 := Lib.hid (hOr.out.on (boxed wr (.cells (pairA pk) 29)))
      have hs5 : (wr.alloc (.cells (pairA pk) 29)).heap.size = wr.heap.size + 1 := by simp
      clear hrow hz hOr hXr hBr hRA hzc hone
      generalize wr.alloc (.cells (pairA pk) 29) = w5 at hP5 hX5 hB5 hO5 hs5 ⊢
      have kid : w5.cell? ⟨wr.heap.size, 0, none⟩ = some (.int .i64 pk.id) := cell_of hP5 (pairA_get0 pk)
      have hR5 := Lib.hid (rowAt_pair hP5)
      clear hP5
      obtain ⟨p1, p2⟩ := isId_true.1 hidk.out
      go_wp2_with fail
      refine (isID_any _ _).mono ?_
      rintro e w' ⟨rfl, rfl⟩
      rw [hidk.out]
      go_wp2_with fail
      refine (need_same _ _ _ _).mono ?_
      rintro e w5 ⟨rfl, rfl⟩
      go_wp2_with (refine wpList_loadM _ rfl _ _ rfl wr.heap.size 0 rfl (pairA pk) hR5.out _ Tryd.underlying29 rfl hifP ?_)
      refine (putPair_any (w.heap.size + 1) Ar (35 + 65 * k) cr _ pk _ hpk.out (by omega) (by omega) hO5.out hlk.out (by omega) (by omega)).mono ?_
      rintro e w6 ⟨A6, c6, rfl, hO6, hB6, hT6⟩
      have hX6 := hT6 _ cs 36 _ hX5.out (by decide)
      have hB16 := Lib.hid (hB5.out.trans (hB6.mono (by omega)))
      replace hX6 := Lib.hid hX6
      have hO66 : OwnB w6 (w.heap.size + 1) A6 c6 (P ++ UInt8.ofNat m.list.length :: pairsL (m.list.take (k + 1))) := by
        rw [hts.out]
        simpa using hO6
      replace hO66 := Lib.hid hO66
      clear hT6 hB6 hO6 hR5 kid
      go_wp2_with fail
      exact ⟨⟨k + 1, A6, c6, by omega, by go_num, by congr 1, hO66, hX6, hB16⟩, by simp [intOf]; omega⟩
    · have : k = m.list.length := by omega
      subst this
      clear hk1 hge
      have hfull := hpl.out m.list.length (Nat.le_refl _)
      rw [List.take_length] at hOr hfull
      have k101 : wr.cell? ⟨w.heap.size, 101, none⟩ = some (.slice TA m.text.length tc) := cell_of hXr.out hC.out.text
      have hlk : Hid ((P ++ UInt8.ofNat m.list.length :: pairsL m.list).length = 35 + 65 * m.list.length) := Lib.hid (by
        simp [hl3]
        omega)
      have hrest : Hid (restM m = UInt8.ofNat m.list.length :: pairsL m.list ++ four m.text.length ++ m.text) := Lib.hid (by simp [restM, hk])
      generalize pairsL m.list = ps at hOr hlk hrest
      go_wp2_with fail
      refine (need_dec (by omega) _ _ _ _).mono ?_
      rintro e wr ⟨rfl, rfl⟩
      go_wp2_with fail
      refine (highest4 m.text.length (by omega) _).mono ?_
      rintro e w5 ⟨rfl, hO5, hB5⟩
      have hbs5 := Lib.hid hO5.bs
      have hOr5 := Lib.hid (hOr.out.on hB5)
      have hX5 := Lib.hid (heap_on hB5 hXr.out)
      have hB05 := Lib.hid (later' hBr.out hB5)
      have hs5 : w.heap.size < w5.heap.size := heap_lt hX5.out
      clear hO5 hB5 hOr hXr hBr k101
      go_wp2_with (at_builtin; go_must (refine wpList_append_bs _ rfl _ _ 22 rfl (w.heap.size + 1) i0 Tryd.underlying22 hi0 hz0 hz1 hz2 Ar (35 + 65 * m.list.length) cr (P ++ UInt8.ofNat m.list.length :: ps) hlk.out rfl hOr5.out _ 4 4 (four m.text.length) rfl rfl hbs5.out ?q5a ?q5b ?_))
      case q5a => have := hlk.out; simp [four] at this ⊢; omega
      case q5b => omega
      intro A6 c6 w6 hO6 hg6 hat6
      have hX6 := grew_box hOr5.out hg6 hX5.out (by decide)
      have hB6 := Lib.hid (below_grew hB05.out hOr5.out (by omega) (by omega) hg6)
      have k101 : w6.cell? ⟨w.heap.size, 101, none⟩ = some (.slice TA m.text.length tc) := cell_of hX6 hC.out.text
      have htx := Lib.hid (hM.out.text.on hB6.out)
      have hs6 : w.heap.size < w6.heap.size := heap_lt hX6
      replace hX6 := Lib.hid hX6
      have hO6 : OwnB w6 (w.heap.size + 1) A6 c6 (P ++ (UInt8.ofNat m.list.length :: (ps ++ four m.text.length))) := by simpa using hO6
      replace hO6 := Lib.hid hO6
      have hlk6 : Hid ((P ++ (UInt8.ofNat m.list.length :: (ps ++ four m.text.length))).length = 39 + 65 * m.list.length) := Lib.hid (by
        have := hlk.out
        simp [four] at this ⊢
        omega)
      clear hg6 hat6 hOr5 hX5 hB05 hbs5
      rw [show 35 + 65 * m.list.length + 4 = 39 + 65 * m.list.length from by omega]
      go_wp2_with (at_builtin; go_must (refine wpList_append_bs _ rfl _ _ 22 rfl (w.heap.size + 1) i0 Tryd.underlying22 hi0 hz0 hz1 hz2 A6 (39 + 65 * m.list.length) c6 (P ++ (UInt8.ofNat m.list.length :: (ps ++ four m.text.length))) hlk6.out rfl hO6.out TA m.text.length tc m.text rfl rfl htx.out ?q6a ?q6b ?_))
      case q6a => have := hlk6.out; rw [this]; omega
      case q6b => omega
      intro A7 c7 w7 hO7 hg7 hat7
      have hB7 := Lib.hid (below_grew hB6.out hO6.out (by omega) (by omega) hg7)
      have hlen : (bodyM m).length = 39 + 65 * m.list.length + m.text.length := by
        rw [hr3.out, hrest.out]
        have := hlk6.out
        simp [four, hl3] at this ⊢
        omega
      replace hO7 := Lib.hid hO7
      clear hg7 hat7 hO6
      go_wp2_with fail
      go_ret
      refine ⟨A7, c7, (congrArg (fun k => Ending.returned (Value.slice A7 k c7)) hlen).symm, ?_, hB7.out⟩
      have h := OwnB.lower (B := w.heap.size) hO7.out (Nat.le_succ _)
      rw [hr3.out, hrest.out]
      simpa [List.append_assoc] using h
end Go.Proofs.YtmnmmabhmedioaaDoor
