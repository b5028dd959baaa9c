/- Wire: the law WireSpoilt: the walk where the frame is turned. -/
import Derived.Test.YtmnmmabhmedioaaDoorWsI
namespace Go.Proofs.YtmnmmabhmedioaaDoor
open Go.RowKit
set_option linter.unusedVariables false
set_option linter.unusedSimpArgs false
set_option maxRecDepth 100000

theorem cell_heap {w : World} {b o : Nat} {cs : Array Value} {T : TypeId} {fz : Nat × Nat} {v : Value} (h : w.heap[b]? = some (.cells cs T fz)) (hv : w.cell? ⟨b, o, none⟩ = some v) : cs[o]? = some v := by
  simpa [World.cell?, h] using hv
theorem zrowZ (o n : Nat) (h : (List.range n).map (fun i => Tryd.zeroCells36[o + i]?) = List.replicate n (some (Value.int .u8 0))) (i : Nat) (hi : i < n) : Tryd.zeroCells36[o + i]? = some (B8 0) := by
  have h2 := congrArg (fun l => l[i]?) h
  simp only [List.getElem?_map, List.getElem?_range hi, Option.map_some, List.getElem?_replicate, if_pos hi] at h2
  have e : B8 0 = .int .u8 0 := rfl
  rw [e]
  simpa using h2
/-- The zero message. -/
def zM : Msg := ⟨0, zeros 32, 0, 0, Pair.zero, [], [], zeros 32, zeros 32, zeros 64, 0⟩
theorem zC_msg : MsgC Tryd.zeroCells36 zM (.slice none 0 0) (.slice none 0 0) := by
  refine ⟨by kernel_rfl, by kernel_rfl, ⟨by simp [zM, zeros], fun i hi => ?_⟩, by kernel_rfl, by kernel_rfl, by kernel_rfl, ⟨by simp [zM, Pair.zero, zeros], fun i hi => ?_⟩, ⟨by simp [zM, Pair.zero, zeros], fun i hi => ?_⟩, by kernel_rfl, by kernel_rfl, ⟨by simp [zM, zeros], fun i hi => ?_⟩, ⟨by simp [zM, zeros], fun i hi => ?_⟩, ⟨by simp [zM, zeros], fun i hi => ?_⟩, by kernel_rfl⟩
  · rw [show zM.session = zeros 32 from rfl, zeros_getD]; exact zrowZ 1 32 (by kernel_rfl) i hi
  · rw [show zM.pair.hid = zeros 32 from rfl, zeros_getD]; exact zrowZ 36 32 (by kernel_rfl) i hi
  · rw [show zM.pair.bnd = zeros 32 from rfl, zeros_getD]; exact zrowZ 68 32 (by kernel_rfl) i hi
  · rw [show zM.bind_ = zeros 32 from rfl, zeros_getD]; exact zrowZ 102 32 (by kernel_rfl) i hi
  · rw [show zM.share = zeros 32 from rfl, zeros_getD]; exact zrowZ 134 32 (by kernel_rfl) i hi
  · rw [show zM.sig = zeros 64 from rfl, zeros_getD]; exact zrowZ 166 64 (by kernel_rfl) i hi
theorem zC_size : Tryd.zeroCells36.size = 231 := by kernel_rfl
theorem zC_info : (Tryd.prog.info? 36).map (·.size) = some Tryd.zeroCells36.size := by kernel_rfl
theorem zC_one : Tryd.zeroCells36.all (·.oneCell') = true := by kernel_rfl

/-- One byte of a row is turned. -/
theorem turned_bs {w : World} {g J Q r : Nat} {cur : Array Value} {kd : UInt8} {body s4 : List UInt8} (z : UInt8) (hpl : (preL kd body).length = Q) (h4 : s4.length = 4) (hr : r < 4) (hJ : Q + r = J) (hg : w.heap[g]? = some (.cells cur 5 (0, 0)))
    (hb : Bs w (some ⟨g, 0, none⟩) (preL kd body ++ s4)) : Bs (w.setCell ⟨g, J, none⟩ (B8 z)) (some ⟨g, 0, none⟩) (preL kd body ++ s4.set r z) := Bs.arr fun i hi => by
  have hl : (preL kd body ++ s4).length = Q + 4 := by simp [hpl, h4]
  have hi4 : i < Q + 4 := by simp [hpl, h4] at hi; exact hi
  have hc := hb.at i (by omega)
  have hci := cell_heap hg hc
  rw [Nat.zero_add] at hci ⊢
  refine cell_of (heap_set hg _) ?_
  by_cases e : i = J
  · subst e
    have hlt : i < cur.size := by
      rcases Nat.lt_or_ge i cur.size with h' | h'
      · exact h'
      · rw [Array.getElem?_eq_none h'] at hci; cases hci
    rw [Array.getElem?_setIfInBounds_self_of_lt hlt]
    rw [List.getD_eq_getElem?_getD, List.getElem?_append_right (by omega), hpl, show i - Q = r from by omega, List.getElem?_set_self (by omega)]
    rfl
  · rw [Array.getElem?_setIfInBounds_ne (by omega), hci]
    by_cases h2 : i < Q
    · rw [List.getD_eq_getElem?_getD, List.getElem?_append_left (by omega), List.getD_eq_getElem?_getD, List.getElem?_append_left (by omega)]
    · rw [List.getD_eq_getElem?_getD, List.getElem?_append_right (by omega), List.getD_eq_getElem?_getD, List.getElem?_append_right (by omega), hpl, List.getElem?_set_ne (by omega)]

set_option maxHeartbeats 16000000 in
theorem spoilt_main (cs : Array Value) (m : Msg) (LA : Option Addr) (lc : Nat) (TA : Option Addr) (tc : Nat) (w : World) (hM : MsgIn w cs m LA lc TA tc) (ht : Tab w.heap.size w) (at_ : Int) (y : UInt8) (hf : faultM m = none) (hy : y ≠ 0) :
    Calls Tryd.prog 5 #[.agg cs, .int .i64 at_, .int .u8 (nb y)] w fun e w' => e = .returned (.bool true) ∧ Below w.heap.size w w' := by
  have hX := heap_alloc_new w (.cells cs 36)
  have hB := boxed w (.cells cs 36)
  have hif : (Tryd.prog.info? 36).map (·.size) = some cs.size := by rw [hM.cells.size]; kernel_rfl
  have hkd := faultM_kind hf
  have hfit := hM.fit hf
  replace hM := Lib.hid hM
  replace ht := Lib.hid ht
  have g3 := nil_eq
  have g4 := nil_ne
  have hy0 : (nb y == 0) = false := by
    refine beq_eq_false_iff_ne.2 fun e => hy (nb_inj (by rw [e]; rfl))
  go_enter Tryd.func5, Tryd.ntmps5
  go_upto_region 1 with fail
  generalize w.alloc (.cells cs 36) = w1 at hX hB ⊢
  replace hX := Lib.hid hX
  replace hB := Lib.hid hB
  go_wp2_with fail
  refine (works_any w1 (ht.out.on hB.out)).mono ?_
  rintro e w2 ⟨rfl, hB2⟩
  have hX2 := Lib.hid (heap_on hB2 hX.out)
  have hB12 := Lib.hid (later hB.out hB2)
  clear hX hB hB2
  have hR2 := Lib.hid (rowAt_all hX2.out)
  go_wp2_with (refine wpList_loadM _ rfl _ _ rfl w.heap.size 0 rfl cs hR2.out _ Tryd.underlying36 rfl hif ?_)
  refine (encode_good cs m LA lc TA tc w2 (hM.out.on hB12.out) hf).mono ?_
  rintro e w3 ⟨A, c, rfl, hO, hB3⟩
  have hnk : nb (u8 m.kind) = m.kind := by rw [nb_u8 (by omega)]; omega
  have hk1 : 1 ≤ nb (u8 m.kind) := by omega
  have hk6 : nb (u8 m.kind) ≤ 6 := by omega
  clear hnk hM hkd
  generalize u8 m.kind = kd at hO hk1 hk6
  generalize bodyM m = body at hO hfit ⊢
  obtain ⟨N, hN⟩ : ∃ N, body.length = N := ⟨_, rfl⟩
  obtain ⟨L, hLd⟩ : ∃ L, 14 + N = L := ⟨_, rfl⟩
  obtain ⟨Q, hQd⟩ : ∃ Q, 10 + N = Q := ⟨_, rfl⟩
  have hpl : (preL kd body).length = Q := by rw [preL_len]; omega
  have hfl : (frameL kd body).length = L := by simp [frameL, hpl, sha_length]; omega
  rw [hN] at hfit ⊢
  rw [hLd]
  obtain ⟨g, cur, rfl, hg, hgr, hgc⟩ : ∃ g cur, A = some ⟨g, 0, none⟩ ∧ w2.heap.size ≤ g ∧ w3.heap[g]? = some (.cells cur 5 (0, 0)) ∧ (frameL kd body).length ≤ c := by
    rcases hO.form with ⟨_, _, h⟩ | h
    · rw [h] at hfl
      simp at hfl
      omega
    · exact h
  rw [hfl] at hgc
  have hgl := heap_lt hgr
  have hbs : Bs w3 (some ⟨g, 0, none⟩) (preL kd body ++ (sha (preL kd body)).take 4) := hO.bs
  have hs4 := sha4 (preL kd body)
  have hB13 := Lib.hid (later hB12.out hB3)
  have hgw : w.heap.size ≤ g := Nat.le_trans hB12.out.size hg
  clear hO hB3 hB12 hR2 hX2 hfl
  obtain ⟨r, hr, hr4⟩ : ∃ r : Nat, bits .and .i64 at_ 3 = (r : Int) ∧ r < 4 := ⟨(at_ % 4).toNat, by rw [i64_and3]; omega, by omega⟩
  obtain ⟨J, hJ⟩ : ∃ J, Q + r = J := ⟨_, rfl⟩
  have hjQ : Q ≤ J ∧ J < L ∧ J - Q = r := by omega
  have hj0 : (0 : Int) ≤ (J : Int) := Int.natCast_nonneg _
  have hjL : (J : Int) < (L : Int) := Int.ofNat_lt.2 hjQ.2.1
  have hLq : L ≤ 1065203 ∧ L - 4 = Q ∧ J ≤ 1065203 := by omega
  have hcJ : w3.cell? ⟨g, J, none⟩ = some (B8 ((preL kd body ++ (sha (preL kd body)).take 4).getD J 0)) := by
    have h := hbs.at J (by simp [hpl, sha_length]; omega)
    rwa [Nat.zero_add] at h
  have hxd : (preL kd body ++ (sha (preL kd body)).take 4).getD J 0 = ((sha (preL kd body)).take 4).getD r 0 := by
    rw [List.getD_eq_getElem?_getD, List.getElem?_append_right (by omega), hpl, hjQ.2.2, ← List.getD_eq_getElem?_getD]
  rw [hxd] at hcJ
  have hne : ((sha (preL kd body)).take 4).set r ((((sha (preL kd body)).take 4).getD r 0) ^^^ y) ≠ (sha (preL kd body)).take 4 := fun e => by
    have h := congrArg (fun l => l.getD r 0) e
    have h1 : (((sha (preL kd body)).take 4).set r ((((sha (preL kd body)).take 4).getD r 0) ^^^ y)).getD r 0 = (((sha (preL kd body)).take 4).getD r 0) ^^^ y := by
      rw [List.getD_eq_getElem?_getD, List.getElem?_set_self (by omega)]
      rfl
    exact xor_ne _ y hy (h1.symm.trans h)
  have hbt := turned_bs ((((sha (preL kd body)).take 4).getD r 0) ^^^ y) hpl hs4 hr4 hJ hgr hbs
  have hl4 : (((sha (preL kd body)).take 4).set r ((((sha (preL kd body)).take 4).getD r 0) ^^^ y)).length = 4 := by rw [List.length_set]; exact hs4
  generalize ((sha (preL kd body)).take 4).set r ((((sha (preL kd body)).take 4).getD r 0) ^^^ y) = t4 at hne hbt hl4
  generalize ((sha (preL kd body)).take 4).getD r 0 = x at hcJ hbt
  have hfz : w3.frozen? ⟨g, J, none⟩ = false := free_of hgr
  have hxor := b_xor x y
  have hK4 : Keep (fun k => k = g) w3 (w3.setCell ⟨g, J, none⟩ (B8 (x ^^^ y))) := Keep.set (fun k => k = g) g J _ rfl
  have hB4 := Lib.hid (below_keep hB13.out hK4 (fun i e => by omega) hB13.out.size)
  have hgl4 : g < (w3.setCell ⟨g, J, none⟩ (B8 (x ^^^ y))).heap.size := by simpa using hgl
  replace hbt := Lib.hid hbt
  replace hne := Lib.hid hne
  clear hbs hxd hs4 hgr hK4
  have hi1 : (L : Int) - 4 = (Q : Int) := by omega
  have hi2 : (Q : Int) + (r : Int) = (J : Int) := by omega
  go_upto_region 8 with fail
  generalize w3.setCell ⟨g, J, none⟩ (B8 (x ^^^ y)) = w4 at hbt hB4 hgl4 ⊢
  clear hcJ hfz hxor hB13
  go_wp2_with fail
  refine (decode_sumbad g 0 c kd body t4 w4 N L Q hk1 hk6 hN hfit hl4 hLd hQd hgc hgl4 hne.out hbt.out).mono ?_
  rintro e w5 ⟨q, rfl, hF, hB5⟩
  rename_i hK
  have hB15 := Lib.hid (later' hB4.out hB5 hB4.out.size)
  have hz5 := Lib.hid (heap_alloc_new w5 (.cells Tryd.zeroCells36 36))
  have hrow : (w5.alloc (.cells Tryd.zeroCells36 36)).setRow w5.heap.size Tryd.zeroCells36 = w5.alloc (.cells Tryd.zeroCells36 36) := World.setRow_alloc_new _ _ _ _
  have hF6 := Lib.hid (hF.on (boxed w5 (.cells Tryd.zeroCells36 36)))
  have hB16 := Lib.hid (later' hB15.out (boxed w5 (.cells Tryd.zeroCells36 36)) hB15.out.size)
  have hz6 := Lib.hid (heap_alloc_new w5 (.cells Tryd.zeroCells36 36))
  have hzif := zC_info
  have hzone := zC_one
  clear hbt hB4 hgl4 hF hB5 hB15
  refine hK _ _ ?_
  clear hK
  go_upto_region 9 with (refine wpList_storeW _ rfl _ _ _ rfl w5.heap.size Tryd.zeroCells36 rfl rfl _ _ hz5.out hzif rfl hzone ?_)
  try rw [hrow]
  clear hrow hz5
  generalize w5.alloc (.cells Tryd.zeroCells36 36) = w6 at hz6 hF6 hB16 ⊢
  have r6 := Lib.hid (rowAt_all hz6.out)
  have hsm := Lib.hid (sameMessage_true Tryd.zeroCells36 Tryd.zeroCells36 zM zC_msg zC_msg)
  have hQb : (Q : Int) ≤ 1099511627776 := by omega
  have hq0 : (0 : Int) ≤ (Q : Int) := by omega
  have hwQ2 : IntKind.i64.wrap (Q : Int) = (Q : Int) := by rw [IntKind.wrap_i64]; omega
  have hfa := Lib.hid (fun (w' : World) (h : Below w6.heap.size w6 w') => fault_true q ⟨kSum, (Q : Int), 103⟩ w' (hF6.out.on h) (by simp [kSum]) (ht.out.on (later' hB16.out h hB16.out.size)) hq0 hQb (by show (0 : Int) ≤ 103; decide) (by show (103 : Int) ≤ 1099511627776; decide) (by show kSum.length ≤ 100; decide))
  go_step
  refine wpList_loadM _ rfl _ _ rfl w5.heap.size 0 rfl Tryd.zeroCells36 r6.out _ Tryd.underlying36 rfl hzif ?_
  refine wpList_value (w' := w6) rfl (.agg Tryd.zeroCells36) (by kernel_rfl) ?_
  refine wpList_step (fun K hK => ?_); go_simp
  go_at_call 13
  refine (hsm.out _).mono ?_
  rintro e w7 ⟨rfl, hB7⟩
  refine hK _ _ ?_
  clear hK
  refine wpList_step (fun K hK => ?_); go_simp; refine hK _ _ ?_; clear hK
  refine wpList_step (fun K hK => ?_); go_simp; refine hK _ _ ?_; clear hK
  refine wpList_step (fun K hK => ?_); go_simp; refine hK _ _ ?_; clear hK
  refine wpList_step (fun K hK => ?_); go_simp; refine hK _ _ ?_; clear hK
  refine wpList_step (fun K hK => ?_); go_simp; refine hK _ _ ?_; clear hK
  refine wpList_step (fun K hK => ?_); go_simp; refine hK _ _ ?_; clear hK
  refine wpList_step (fun K hK => ?_); go_simp
  go_at_call 14
  refine (hfa.out _ (by assumption)).mono ?_
  rintro e w8 ⟨rfl, hB8⟩
  refine hK _ _ ?_
  clear hK
  refine wpList_step (fun K hK => ?_); go_simp; refine hK _ _ ?_; clear hK
  refine wpList_step (fun K hK => ?_); go_simp; refine hK _ _ ?_; clear hK
  refine wpList_nil ?_
  go_wp2_with fail
  go_ret
  exact ⟨rfl, later (later hB16.out hB7) hB8⟩
theorem spoilt_walk (cs : Array Value) (m : Msg) (LA : Option Addr) (lc : Nat) (TA : Option Addr) (tc : Nat) (w : World) (hM : MsgIn w cs m LA lc TA tc) (ht : Tab w.heap.size w) (at_ : Int) (y : UInt8) :
    Calls Tryd.prog 5 #[.agg cs, .int .i64 at_, .int .u8 (nb y)] w fun e w' => e = .returned (.bool true) ∧ Below w.heap.size w w' := by
  by_cases hy : y = 0
  · exact spoilt_early cs m LA lc TA tc w hM ht at_ y (.inr hy)
  cases hf : faultM m with
  | some f => exact spoilt_early cs m LA lc TA tc w hM ht at_ y (.inl (by rw [hf]; exact fun h => by cases h))
  | none => exact spoilt_main cs m LA lc TA tc w hM ht at_ y hf hy
end Go.Proofs.YtmnmmabhmedioaaDoor
