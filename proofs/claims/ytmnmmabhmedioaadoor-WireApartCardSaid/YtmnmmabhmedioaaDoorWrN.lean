/- Wire: the example works(). -/
import Derived.Test.YtmnmmabhmedioaaDoorWrM
import Derived.Test.YtmnmmabhmedioaaDoorWrB
namespace Go.Proofs.YtmnmmabhmedioaaDoor
open Go.RowKit
set_option linter.unusedVariables false
set_option linter.unusedSimpArgs false
set_option maxRecDepth 100000

theorem RowC.one {cs : Array Value} {o n : Nat} {l : List UInt8} (h : RowC cs o n l) {j : Nat} {v : Value} (hj : cs[j]? = some v) (h1 : o ≤ j) (h2 : j < o + n) : v.oneCell' = true := by
  have := h.2 (j - o) (by omega)
  rw [show o + (j - o) = j from by omega, hj] at this
  cases this
  rfl
theorem MsgC.one {cs : Array Value} {m : Msg} {lv tv : Value} (h : MsgC cs m lv tv) (hl : lv.oneCell' = true) (htv : tv.oneCell' = true) : cs.all (·.oneCell') = true := by
  refine Array.all_eq_true_iff_forall_mem.2 fun v hv => ?_
  obtain ⟨j, hj⟩ := Array.mem_iff_getElem?.1 hv
  have hlt : j < 231 := by
    rw [← h.size]
    rcases Nat.lt_or_ge j cs.size with h' | h'
    · exact h'
    · rw [Array.getElem?_eq_none h'] at hj; cases hj
  have hd : j = 0 ∨ (1 ≤ j ∧ j < 1 + 32) ∨ j = 33 ∨ j = 34 ∨ j = 35 ∨ (36 ≤ j ∧ j < 36 + 32) ∨ (68 ≤ j ∧ j < 68 + 32) ∨ j = 100 ∨ j = 101 ∨ (102 ≤ j ∧ j < 102 + 32) ∨ (134 ≤ j ∧ j < 134 + 32) ∨ (166 ≤ j ∧ j < 166 + 64) ∨ j = 230 := by omega
  rcases hd with rfl | ⟨a, b⟩ | rfl | rfl | rfl | ⟨a, b⟩ | ⟨a, b⟩ | rfl | rfl | ⟨a, b⟩ | ⟨a, b⟩ | ⟨a, b⟩ | rfl
  · rw [h.kind] at hj; cases hj; rfl
  · exact h.session.one hj a b
  · rw [h.from_] at hj; cases hj; rfl
  · rw [h.to_] at hj; cases hj; rfl
  · rw [h.pid] at hj; cases hj; rfl
  · exact h.hid.one hj a b
  · exact h.bnd.one hj a b
  · rw [h.list] at hj; cases hj; exact hl
  · rw [h.text] at hj; cases hj; exact htv
  · exact h.bind_.one hj a b
  · exact h.share.one hj a b
  · exact h.sig.one hj a b
  · rw [h.code] at hj; cases hj; rfl
/-- The example's message. -/
noncomputable def exC : Array Value := ((Tryd.zeroCells36.setIfInBounds 0 (.int .i64 5)).setIfInBounds 33 (.int .i64 2)).setIfInBounds 230 (.int .i64 5)
def exM : Msg := refuseM (zeros 32) 2 0 5
theorem zrowM (o n : Nat) (h : (List.range n).map (fun i => exC[o + i]?) = List.replicate n (some (Value.int .u8 0))) (i : Nat) (hi : i < n) : exC[o + i]? = some (B8 0) := by
  have h2 := congrArg (fun l => l[i]?) h
  simp only [List.getElem?_map, List.getElem?_range hi, Option.map_some, List.getElem?_replicate, if_pos hi] at h2
  have e : B8 0 = .int .u8 0 := rfl
  rw [e]
  simpa using h2
theorem exC_msg : MsgC exC exM (.slice none 0 0) (.slice none 0 0) := by
  refine ⟨by kernel_rfl, by kernel_rfl, ⟨by simp [exM, refuseM, zeros], fun i hi => ?_⟩, by kernel_rfl, by kernel_rfl, by kernel_rfl, ⟨by simp [exM, refuseM, zeros], fun i hi => ?_⟩, ⟨by simp [exM, refuseM, zeros], fun i hi => ?_⟩, by kernel_rfl, by kernel_rfl, ⟨by simp [exM, refuseM, zeros], fun i hi => ?_⟩, ⟨by simp [exM, refuseM, zeros], fun i hi => ?_⟩, ⟨by simp [exM, refuseM, zeros], fun i hi => ?_⟩, by kernel_rfl⟩
  · rw [show exM.session = zeros 32 from rfl, zeros_getD]; exact zrowM 1 32 (by kernel_rfl) i hi
  · rw [show exM.pair.hid = zeros 32 from rfl, zeros_getD]; exact zrowM 36 32 (by kernel_rfl) i hi
  · rw [show exM.pair.bnd = zeros 32 from rfl, zeros_getD]; exact zrowM 68 32 (by kernel_rfl) i hi
  · rw [show exM.bind_ = zeros 32 from rfl, zeros_getD]; exact zrowM 102 32 (by kernel_rfl) i hi
  · rw [show exM.share = zeros 32 from rfl, zeros_getD]; exact zrowM 134 32 (by kernel_rfl) i hi
  · rw [show exM.sig = zeros 64 from rfl, zeros_getD]; exact zrowM 166 64 (by kernel_rfl) i hi
theorem exC_all : exC.all (·.oneCell') = true := by kernel_rfl

def exBody : List UInt8 := zeros 32 ++ [2, 0] ++ two 5
theorem exBody_len : exBody.length = 36 := rfl
theorem enc_ex (w : World) : Calls Tryd.prog 16 #[.agg exC] w fun e w' => ∃ A c, e = .returned (.tuple #[.slice A 50 c, .nilIface]) ∧ OwnB w' w.heap.size A c (frameL 5 exBody) ∧ Below w.heap.size w w' :=
  encode_ok exC exM _ _ exC_msg (by decide) (by decide) exBody 36 rfl (by omega) w fun w1 _ =>
    body_refuse exC exM _ _ exC_msg rfl (by decide) (by decide) (by decide) (by decide) (by decide) (by decide) w1

set_option maxHeartbeats 16000000 in
theorem works_any (w : World) (ht : Tab w.heap.size w) : Calls Tryd.prog 15 #[] w fun e w' => e = .returned (.bool true) ∧ Below w.heap.size w w' := by
  replace ht := Lib.hid ht
  go_enter Tryd.func15, Tryd.ntmps15
  go_upto_region 1 with fail
  go_step
  have hifE : (Tryd.prog.info? 36).map (·.size) = some exC.size := by kernel_rfl
  have hz36 : Tryd.zeroCells36.size = exC.size := by kernel_rfl
  refine wpList_value (w' := w) rfl (.agg exC) (by kernel_rfl) ?_
  refine wpList_value (w' := w.alloc (.cells Tryd.zeroCells36 36)) rfl (.pointer (some ⟨w.heap.size, 0, none⟩)) (by kernel_rfl) ?_
  refine wpList_skips (w' := w.alloc (.cells exC 36)) rfl ?_ ?_
  · have h := run_storeAt_new (P := Tryd.prog) w 36 Tryd.zeroCells36 exC hifE hz36 exC_all
    show (Instr.storeAt 36 (.pointer (some ⟨w.heap.size, 0, none⟩)) (.agg exC) >>= fun _ => pure Next.skip : Sem Next).run Tryd.prog _ = _
    simp only [Sem.run_bind, h, Result.andThen, Sem.run_pure]
  refine wpList_nil ?_
  simp only [Act.put]
  have hX := Lib.hid (heap_alloc_new w (.cells exC 36))
  have hB1 := boxed w (.cells exC 36)
  generalize w.alloc (.cells exC 36) = w1 at hX hB1 ⊢
  replace hB1 := Lib.hid hB1
  go_upto_region 2 with fail
  go_step
  refine wpList_loadW _ rfl _ _ rfl w.heap.size rfl exC _ hX.out _ Tryd.underlying36 rfl hifE ?_
  go_wp2_with fail
  refine (enc_ex _).mono ?_
  rintro e w2 ⟨A, c, rfl, hO, hB2⟩
  obtain ⟨g, cur, rfl, hg, hgr, hgc⟩ : ∃ g cur, A = some ⟨g, 0, none⟩ ∧ w1.heap.size ≤ g ∧ w2.heap[g]? = some (.cells cur 5 (0, 0)) ∧ (frameL 5 exBody).length ≤ c := by
    rcases hO.form with ⟨_, _, h⟩ | h
    · have h2 : (frameL 5 exBody).length = 50 := by simp [frameL, preL, four, sha_length, exBody_len]
      rw [h] at h2
      cases h2
    · exact h
  have hfl : (frameL 5 exBody).length = 50 := by simp [frameL, preL, four, sha_length, exBody_len]
  rw [hfl] at hgc
  have hgl := heap_lt hgr
  have hbs := Lib.hid hO.bs
  have hX2 := Lib.hid (heap_on hB2 hX.out)
  have hB12 := Lib.hid (later hB1.out hB2)
  have hc49 : (49 : Int) ≤ (c : Int) := by omega
  clear hO hgr hX hB1 hB2
  go_wp2_with fail
  refine (decode_refuse g 0 c (zeros 32) 2 0 5 w2 rfl (by omega) (by omega) hgc hgl hbs.out).mono ?_
  rintro e w3 ⟨cs, rfl, hM, hB3⟩
  rename_i hK
  have hif : (Tryd.prog.info? 36).map (·.size) = some cs.size := by rw [hM.size]; kernel_rfl
  have hzc : Tryd.zeroCells36.size = cs.size := by rw [hM.size]; kernel_rfl
  have hone := hM.one rfl rfl
  have hX3 := Lib.hid (heap_on hB3 hX2.out)
  have hb3 := Lib.hid ((hbs.out.on hB3).take 49)
  have hB13 := Lib.hid (later hB12.out hB3)
  have hz3 := Lib.hid (heap_alloc_new w3 (.cells Tryd.zeroCells36 36))
  have hcs3 := heap_alloc_new w3 (.cells cs 36)
  have hX4 := Lib.hid (heap_on (boxed w3 (.cells cs 36)) hX3.out)
  have hb4 := Lib.hid (hb3.out.on (boxed w3 (.cells cs 36)))
  have hB14 := Lib.hid (later hB13.out (boxed w3 (.cells cs 36)))
  have hrow : (w3.alloc (.cells Tryd.zeroCells36 36)).setRow w3.heap.size cs = w3.alloc (.cells cs 36) := World.setRow_alloc_new _ _ _ _
  replace hrow := Lib.hid hrow
  replace hM := Lib.hid hM
  clear hX2 hbs hB12 hB3 hgl hg
  refine hK _ _ ?_
  clear hK
  go_upto_region 6 with (refine wpList_storeW _ rfl _ _ _ rfl w3.heap.size cs rfl rfl _ _ hz3.out hif hzc hone ?_)
  rw [hrow.out]
  replace hcs3 := Lib.hid hcs3
  have hs4 : (w3.alloc (.cells cs 36)).heap.size = w3.heap.size + 1 := by simp
  generalize w3.alloc (.cells cs 36) = w4 at hX4 hb4 hB14 hcs3 hs4 ⊢
  clear hrow hz3 hX3 hb3 hB13
  go_wp2_with fail
  refine (decode_cut g 0 c exBody w4 exBody_len hgc hb4.out).mono ?_
  rintro e w5 ⟨q, rfl, hF, hB5⟩
  rename_i hK
  have hzif : (Tryd.prog.info? 36).map (·.size) = some Tryd.zeroCells36.size := by kernel_rfl
  have hzone : Tryd.zeroCells36.all (·.oneCell') = true := by kernel_rfl
  have hX5 := Lib.hid (heap_on hB5 hX4.out)
  have hc5 := Lib.hid (heap_on hB5 hcs3.out)
  have hB15 := Lib.hid (later hB14.out hB5)
  have hz5 := Lib.hid (heap_alloc_new w5 (.cells Tryd.zeroCells36 36))
  have hrow : (w5.alloc (.cells Tryd.zeroCells36 36)).setRow w5.heap.size Tryd.zeroCells36 = w5.alloc (.cells Tryd.zeroCells36 36) := World.setRow_alloc_new _ _ _ _
  have hX6 := Lib.hid (heap_on (boxed w5 (.cells Tryd.zeroCells36 36)) hX5.out)
  have hc6 := Lib.hid (heap_on (boxed w5 (.cells Tryd.zeroCells36 36)) hc5.out)
  have hF6 := Lib.hid (hF.on (boxed w5 (.cells Tryd.zeroCells36 36)))
  have hB16 := Lib.hid (later hB15.out (boxed w5 (.cells Tryd.zeroCells36 36)))
  clear hX4 hb4 hB14 hcs3 hB5 hX5 hc5 hB15 hF
  refine hK _ _ ?_
  clear hK
  go_upto_region 7 with (refine wpList_storeW _ rfl _ _ _ rfl w5.heap.size Tryd.zeroCells36 rfl rfl _ _ hz5.out hzif rfl hzone ?_)
  try rw [hrow]
  clear hrow hz5
  generalize w5.alloc (.cells Tryd.zeroCells36 36) = w6 at hX6 hc6 hF6 hB16 ⊢
  have r1 := Lib.hid (show RowAt w6 w.heap.size 0 exC from fun j v h => by rw [Nat.zero_add]; exact cell_of hX6.out h)
  have r4 := Lib.hid (show RowAt w6 w3.heap.size 0 cs from fun j v h => by rw [Nat.zero_add]; exact cell_of hc6.out h)
  have hsm := Lib.hid (sameMessage_true cs exC exM hM.out exC_msg)
  have hfa := Lib.hid (fun (w' : World) (h : Below w6.heap.size w6 w') => fault_true q ⟨kFrame, 49, 3⟩ w' (hF6.out.on h) (by simp [kFrame]) (ht.out.on (later hB16.out h)) (by decide) (by decide) (by decide) (by decide) (by decide))
  go_step
  repeat (first
    | (apply wpList_loadG (hc := r1.out) (hu := Tryd.underlying36) (hi := hifE); (case ho => exact rfl); (case hx => exact rfl); (case hd => rfl); (case hw => simp [Region.wanted, yielded, Act.put]))
    | (apply wpList_loadG (hc := r4.out) (hu := Tryd.underlying36) (hi := hif); (case ho => exact rfl); (case hx => exact rfl); (case hd => rfl); (case hw => simp [Region.wanted, yielded, Act.put]))
    | (refine wpList_step (fun K hK => ?_); go_simp; refine hK _ _ ?_; clear hK)
    | (refine wpList_step (fun K hK => ?_); go_simp; go_at_call 13; refine (hsm.out _).mono ?_; rintro e w7 ⟨rfl, hB7⟩; refine hK _ _ ?_; clear hK)
    | (refine wpList_step (fun K hK => ?_); go_simp; go_at_call 14; refine (hfa.out _ (by assumption)).mono ?_; rintro e w8 ⟨rfl, hB8⟩; refine hK _ _ ?_; clear hK))
  refine wpList_nil ?_
  go_wp2_with fail
  go_ret
  exact ⟨rfl, later (later hB16.out hB7) hB8⟩
end Go.Proofs.YtmnmmabhmedioaaDoor
