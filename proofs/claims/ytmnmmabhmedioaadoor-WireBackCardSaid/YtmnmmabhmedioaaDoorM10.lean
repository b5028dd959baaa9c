/- Wire: the law's look at a fault. -/
import Derived.Test.YtmnmmabhmedioaaDoorM1
import Derived.Test.YtmnmmabhmedioaaDoorM7
import Derived.Test.YtmnmmabhmedioaaDoorM9
namespace Go.Proofs.YtmnmmabhmedioaaDoor
open Go.RowKit
set_option linter.unusedVariables false
set_option linter.unusedSimpArgs false
set_option maxRecDepth 100000

/-! ### the law's dec -/
theorem conv_new (w : World) (l : List UInt8) (c : Nat) :
    (convert 22 9 (.slice (some ⟨w.heap.size, 0, none⟩) l.length c)).run Tryd.prog (w.alloc (.cells (l.map B8).toArray 5)) = .ok (.string ⟨l.toArray⟩) (w.alloc (.cells (l.map B8).toArray 5)) := by
  refine run_convert_bytes_back _ _ _ 5 ⟨w.heap.size, 0, none⟩ c l Tryd.underlying22 Tryd.underlying5 Tryd.underlying9 ?_
  intro k hk
  have h := heap_alloc_new w (.cells (l.map B8).toArray 5)
  rw [Go.WideShapes.add_plain]
  exact cell_of h (by simp [hk]; rfl)
theorem conv_one (w : World) (v : Int) (h0 : 0 ≤ v) (h1 : v < 256) :
    (convert 22 9 (.slice (some ⟨w.heap.size, 0, none⟩) 1 1)).run Tryd.prog (w.alloc (.cells #[.int .u8 v] 5)) = .ok (.string ⟨#[UInt8.ofNat v.toNat]⟩) (w.alloc (.cells #[.int .u8 v] 5)) := by
  have h := conv_new w [UInt8.ofNat v.toNat] 1
  have e : nb (UInt8.ofNat v.toNat) = v := by unfold nb; rw [UInt8.toNat_ofNat']; omega
  simpa [B8, e] using h

set_option maxHeartbeats 4000000 in
theorem dec_any : ∀ (n : Nat), n ≤ 1099511627776 → ∀ w : World,
    Calls Tryd.prog 50 #[.int .i64 (n : Int)] w fun e w' => e = .returned (.string ⟨(Lib.decDigits n).toArray⟩) ∧ Below w.heap.size w w' := by
  intro n
  induction n using Nat.strongRecOn with
  | _ n ih =>
    intro hn w
    have hv := conv_one w (48 + (n : Int) % 10) (by omega) (by omega)
    have e : (48 + (n : Int) % 10).toNat = 48 + n % 10 := by omega
    rw [e] at hv
    clear e
    by_cases h : n < 10
    · clear ih
      have e2 : n % 10 = n := by omega
      rw [e2] at hv
      clear e2
      have hs := Lib.hid (Lib.decDigits_one h)
      generalize UInt8.ofNat (48 + n) = x at hv hs
      go_enter Tryd.func50, Tryd.ntmps50
      go_wp2
      go_ret
      exact ⟨by rw [hs.out]; rfl, boxed _ _⟩
    · have hs := Lib.hid (show Lib.decDigits n = Lib.decDigits (n / 10) ++ [UInt8.ofNat (48 + n % 10)] by rw [Lib.decDigits, dif_neg h])
      have hl := decDigits_len (n / 10) (by omega)
      have ih2 : Hid (∀ w : World, Calls Tryd.prog 50 #[.int .i64 ((n : Int) / 10)] w fun e w' => e = .returned (.string ⟨(Lib.decDigits (n / 10)).toArray⟩) ∧ Below w.heap.size w w') := by
        rw [show (n : Int) / 10 = ((n / 10 : Nat) : Int) from by omega]
        exact Lib.hid (ih (n / 10) (by omega) (by omega))
      clear ih
      generalize UInt8.ofNat (48 + n % 10) = x at hv hs
      generalize Lib.decDigits (n / 10) = ds at hs hl ih2
      go_enter Tryd.func50, Tryd.ntmps50
      go_wp2_with fail
      refine (ih2.out _).mono ?_
      rintro e w1 ⟨rfl, b1⟩
      go_wp2
      go_ret
      exact ⟨by rw [hs.out]; exact congrArg Ending.returned (str_val (by simp)), later (boxed _ _) b1⟩
theorem dec_int (n : Int) (h0 : 0 ≤ n) (h1 : n ≤ 1099511627776) (w : World) :
    Calls Tryd.prog 50 #[.int .i64 n] w fun e w' => e = .returned (.string ⟨(Lib.itoa n).toArray⟩) ∧ Below w.heap.size w w' := by
  obtain ⟨m, rfl⟩ := Int.eq_ofNat_of_zero_le h0
  rw [Lib.itoa_nonneg]
  exact dec_any m (by omega) w

theorem none_no (f : FD) (h : f.field ≠ []) (w : World) :
    Calls Tryd.prog 18 #[.agg #[.string ⟨f.field.toArray⟩, .int .i64 f.at_, .int .i64 f.why]] w fun e w' => e = .returned (.bool false) ∧ Below w.heap.size w w' := by
  have he : f.field.isEmpty = false := by simpa using h
  go_enter Tryd.func18, Tryd.ntmps18
  go_wp2
  go_ret
  exact ⟨rfl, boxed _ _⟩
theorem none_yes (at_ why : Value) (w : World) :
    Calls Tryd.prog 18 #[.agg #[.string ⟨#[]⟩, at_, why]] w fun e w' => e = .returned (.bool true) ∧ Below w.heap.size w w' := by
  go_enter Tryd.func18, Tryd.ntmps18
  go_wp2
  go_ret
  exact ⟨rfl, boxed _ _⟩

theorem ta_fault (v : Value) (w : World) : (Instr.typeAssert (.iface 79 v) 38 79 true).run Tryd.prog w = .ok (.tuple #[v, .bool true]) w := by kernel_rfl
theorem is_faultB (b : Nat) (f : FD) (w : World) (hf : FaultAt w b f) :
    Calls Tryd.prog 49 #[errOf b, .iface 34 (.int .i64 f.why)] w fun e w' => e = .returned (.bool true) ∧ Below w.heap.size w w' :=
  (is_fault b f w hf).mono fun e w' ⟨h1, h2⟩ => ⟨h1, h2 ▸ Below.refl _ _⟩
theorem keepFF {w W W' : World} {b X : Nat} {fl : List UInt8} {fa fw : Int} (h : Below W.heap.size W W') (hS : W.cell? ⟨b, 0, none⟩ = some (.string ⟨fl.toArray⟩) ∧ W.cell? ⟨b, 1, none⟩ = some (.int .i64 fa) ∧ W.cell? ⟨b, 2, none⟩ = some (.int .i64 fw) ∧ W.cell? ⟨X, 0, none⟩ = some (.string ⟨fl.toArray⟩) ∧ W.cell? ⟨X, 1, none⟩ = some (.int .i64 fa) ∧ W.cell? ⟨X, 2, none⟩ = some (.int .i64 fw) ∧ FaultAt W b ⟨fl, fa, fw⟩ ∧ Below w.heap.size w W) : W'.cell? ⟨b, 0, none⟩ = some (.string ⟨fl.toArray⟩) ∧ W'.cell? ⟨b, 1, none⟩ = some (.int .i64 fa) ∧ W'.cell? ⟨b, 2, none⟩ = some (.int .i64 fw) ∧ W'.cell? ⟨X, 0, none⟩ = some (.string ⟨fl.toArray⟩) ∧ W'.cell? ⟨X, 1, none⟩ = some (.int .i64 fa) ∧ W'.cell? ⟨X, 2, none⟩ = some (.int .i64 fw) ∧ FaultAt W' b ⟨fl, fa, fw⟩ ∧ Below w.heap.size w W' :=
  ⟨cell_on h hS.1, cell_on h hS.2.1, cell_on h hS.2.2.1, cell_on h hS.2.2.2.1, cell_on h hS.2.2.2.2.1, cell_on h hS.2.2.2.2.2.1, hS.2.2.2.2.2.2.1.on h, later hS.2.2.2.2.2.2.2 h⟩

set_option maxHeartbeats 8000000 in
theorem fault_true (b : Nat) (f : FD) (w : World) (hf : FaultAt w b f) (hne : f.field ≠ []) (ht : Tab w.heap.size w) (h0 : 0 ≤ f.at_) (h1 : f.at_ ≤ 1099511627776) (h2 : 0 ≤ f.why) (h3 : f.why ≤ 1099511627776) (h4 : f.field.length ≤ 100) :
    Calls Tryd.prog 14 #[errOf b, .agg #[.string ⟨f.field.toArray⟩, .int .i64 f.at_, .int .i64 f.why]] w fun e w' => e = .returned (.bool true) ∧ Below w.heap.size w w' := by
  obtain ⟨fl, fa, fw⟩ := f
  simp only at h0 h1 h2 h3 h4 hne
  replace hne := Lib.hid hne
  replace hf := Lib.hid hf
  replace ht := Lib.hid ht
  go_enter Tryd.func14, Tryd.ntmps14
  go_wp2_with fail
  refine (none_no ⟨fl, fa, fw⟩ hne.out _).mono ?_
  rintro e w1 ⟨rfl, hb1⟩
  have hta : (Instr.typeAssert (errOf b) 38 79 true).run Tryd.prog w1 = .ok (.tuple #[.pointer (some ⟨b, 0, none⟩), .bool true]) w1 := ta_fault _ _
  have hX := heap_alloc_new w (.cells #[.string ⟨fl.toArray⟩, .int .i64 fa, .int .i64 fw] 42)
  have hbw := later (boxed _ _) hb1
  have c := heap_on hbw hf.out
  have d := heap_on hb1 hX
  have c0 : w1.cell? ⟨b, 0, none⟩ = some (.string ⟨fl.toArray⟩) := cell_of c rfl
  have c1 : w1.cell? ⟨b, 1, none⟩ = some (.int .i64 fa) := cell_of c rfl
  have c2 : w1.cell? ⟨b, 2, none⟩ = some (.int .i64 fw) := cell_of c rfl
  have d0 : w1.cell? ⟨w.heap.size, 0, none⟩ = some (.string ⟨fl.toArray⟩) := cell_of d rfl
  have d1 : w1.cell? ⟨w.heap.size, 1, none⟩ = some (.int .i64 fa) := cell_of d rfl
  have d2 : w1.cell? ⟨w.heap.size, 2, none⟩ = some (.int .i64 fw) := cell_of d rfl
  have hcc : FaultAt w1 b ⟨fl, fa, fw⟩ := c
  clear hX hb1 c d
  have l1 := itoa_len h0 h1
  have l2 := itoa_len h2 h3
  have q1 : ¬ (9223372036854775807 < fl.length + 4) := by omega
  have q2 : ¬ (9223372036854775807 < fl.length + 4 + (Lib.itoa fa).length) := by omega
  have q3 : ¬ (9223372036854775807 < fl.length + 4 + (Lib.itoa fa).length + 2) := by omega
  have q4 : ¬ (9223372036854775807 < fl.length + 4 + (Lib.itoa fa).length + 2 + (kRime.length + (Lib.itoa fw).length)) := by
    have : kRime.length = 5 := rfl
    omega
  have hcat : Hid ((({ data := fl.toArray } : ByteArray) ++ { data := #[32, 97, 116, 32] } ++ { data := (Lib.itoa fa).toArray } ++ { data := #[58, 32] } ++ { data := (kRime ++ Lib.itoa fw).toArray }) = ⟨(FD.text ⟨fl, fa, fw⟩).toArray⟩) := Lib.hid (by
    have h := str_val (a := (({ data := fl.toArray } : ByteArray) ++ { data := #[32, 97, 116, 32] } ++ { data := (Lib.itoa fa).toArray } ++ { data := #[58, 32] } ++ { data := (kRime ++ Lib.itoa fw).toArray })) (b := FD.text ⟨fl, fa, fw⟩) (by simp [FD.text, kAt, kColon])
    injection h)
  have hcat2 := hcat.out
  go_upto_region 6 with fail
  go_region_held3 (fun w' => w'.cell? ⟨b, 0, none⟩ = some (.string ⟨fl.toArray⟩) ∧ w'.cell? ⟨b, 1, none⟩ = some (.int .i64 fa) ∧ w'.cell? ⟨b, 2, none⟩ = some (.int .i64 fw) ∧ w'.cell? ⟨w.heap.size, 0, none⟩ = some (.string ⟨fl.toArray⟩) ∧ w'.cell? ⟨w.heap.size, 1, none⟩ = some (.int .i64 fa) ∧ w'.cell? ⟨w.heap.size, 2, none⟩ = some (.int .i64 fw) ∧ FaultAt w' b ⟨fl, fa, fw⟩ ∧ Below w.heap.size w w')
    (first | ((try dsimp only); exact ⟨c0, c1, c2, d0, d1, d2, hcc, hbw.drew⟩) | (go_split_ands; exact keepFF (by assumption) ⟨by assumption, by assumption, by assumption, by assumption, by assumption, by assumption, by assumption, by assumption⟩))
    (first
      | (go_at_call 49; go_split_ands; refine (is_faultB b ⟨fl, fa, fw⟩ _ (by assumption)).mono ?_; rintro e w' ⟨rfl, hb'⟩)
      | (go_at_call 26; go_split_ands; refine (ferror_any b ⟨fl, fa, fw⟩ _ (by assumption) (ht.out.on (by assumption)) h0 h1 h2 h3 h4).mono ?_; rintro e w' ⟨rfl, hb'⟩)
      | (go_at_call 50; refine (dec_int _ h0 h1 _).mono ?_; rintro e w' ⟨rfl, hb'⟩)
      | (go_at_call 51; go_split_ands; refine (errno_any _ ?_ ?_ _ (ht.out.at ?_)).mono ?_; (omega); (omega); (assumption); rintro e w' ⟨rfl, hb'⟩))
  all_goals
    go_split_ands
    go_wp2
    go_ret
    refine ⟨?_, by assumption⟩
    rw [← hcat.out]
    simp
end Go.Proofs.YtmnmmabhmedioaaDoor
/- Wire: the example works(). -/
namespace Go.Proofs.YtmnmmabhmedioaaDoor
open Go.RowKit
set_option linter.unusedVariables false
set_option linter.unusedSimpArgs false
set_option maxRecDepth 100000

theorem RowC.one {cs : Array Value} {o n : Nat} {l : List UInt8} (h : RowC cs o n l) {j : Nat} {v : Value} (hj : cs[j]? = some v) (h1 : o ≤ j) (h2 : j < o + n) : v.oneCell' = true := by
  have := h.2 (j - o) (by omega)
  rw [show o + (j - o) = j from by omega, hj] at this
  cases this
  rfl
theorem MsgC.one {cs : Array Value} {m : Msg} {lv tv : Value} (h : MsgC cs m lv tv) (hl : lv.oneCell' = true) (htv : tv.oneCell' = true) : cs.all (·.oneCell') = true := by
  refine Array.all_eq_true_iff_forall_mem.2 fun v hv => ?_
  obtain ⟨j, hj⟩ := Array.mem_iff_getElem?.1 hv
  have hlt : j < 231 := by
    rw [← h.size]
    rcases Nat.lt_or_ge j cs.size with h' | h'
    · exact h'
    · rw [Array.getElem?_eq_none h'] at hj; cases hj
  have hd : j = 0 ∨ (1 ≤ j ∧ j < 1 + 32) ∨ j = 33 ∨ j = 34 ∨ j = 35 ∨ (36 ≤ j ∧ j < 36 + 32) ∨ (68 ≤ j ∧ j < 68 + 32) ∨ j = 100 ∨ j = 101 ∨ (102 ≤ j ∧ j < 102 + 32) ∨ (134 ≤ j ∧ j < 134 + 32) ∨ (166 ≤ j ∧ j < 166 + 64) ∨ j = 230 := by omega
  rcases hd with rfl | ⟨a, b⟩ | rfl | rfl | rfl | ⟨a, b⟩ | ⟨a, b⟩ | rfl | rfl | ⟨a, b⟩ | ⟨a, b⟩ | ⟨a, b⟩ | rfl
  · rw [h.kind] at hj; cases hj; rfl
  · exact h.session.one hj a b
  · rw [h.from_] at hj; cases hj; rfl
  · rw [h.to_] at hj; cases hj; rfl
  · rw [h.pid] at hj; cases hj; rfl
  · exact h.hid.one hj a b
  · exact h.bnd.one hj a b
  · rw [h.list] at hj; cases hj; exact hl
  · rw [h.text] at hj; cases hj; exact htv
  · exact h.bind_.one hj a b
  · exact h.share.one hj a b
  · exact h.sig.one hj a b
  · rw [h.code] at hj; cases hj; rfl
/-- The example's message. -/
noncomputable def exC : Array Value := ((Tryd.zeroCells36.setIfInBounds 0 (.int .i64 5)).setIfInBounds 33 (.int .i64 2)).setIfInBounds 230 (.int .i64 5)
def exM : Msg := refuseM (zeros 32) 2 0 5
theorem zrowM (o n : Nat) (h : (List.range n).map (fun i => exC[o + i]?) = List.replicate n (some (Value.int .u8 0))) (i : Nat) (hi : i < n) : exC[o + i]? = some (B8 0) := by
  have h2 := congrArg (fun l => l[i]?) h
  simp only [List.getElem?_map, List.getElem?_range hi, Option.map_some, List.getElem?_replicate, if_pos hi] at h2
  have e : B8 0 = .int .u8 0 := rfl
  rw [e]
  simpa using h2
theorem exC_msg : MsgC exC exM (.slice none 0 0) (.slice none 0 0) := by
  refine ⟨by kernel_rfl, by kernel_rfl, ⟨by simp [exM, refuseM, zeros], fun i hi => ?_⟩, by kernel_rfl, by kernel_rfl, by kernel_rfl, ⟨by simp [exM, refuseM, zeros], fun i hi => ?_⟩, ⟨by simp [exM, refuseM, zeros], fun i hi => ?_⟩, by kernel_rfl, by kernel_rfl, ⟨by simp [exM, refuseM, zeros], fun i hi => ?_⟩, ⟨by simp [exM, refuseM, zeros], fun i hi => ?_⟩, ⟨by simp [exM, refuseM, zeros], fun i hi => ?_⟩, by kernel_rfl⟩
  · rw [show exM.session = zeros 32 from rfl, zeros_getD]; exact zrowM 1 32 (by kernel_rfl) i hi
  · rw [show exM.pair.hid = zeros 32 from rfl, zeros_getD]; exact zrowM 36 32 (by kernel_rfl) i hi
  · rw [show exM.pair.bnd = zeros 32 from rfl, zeros_getD]; exact zrowM 68 32 (by kernel_rfl) i hi
  · rw [show exM.bind_ = zeros 32 from rfl, zeros_getD]; exact zrowM 102 32 (by kernel_rfl) i hi
  · rw [show exM.share = zeros 32 from rfl, zeros_getD]; exact zrowM 134 32 (by kernel_rfl) i hi
  · rw [show exM.sig = zeros 64 from rfl, zeros_getD]; exact zrowM 166 64 (by kernel_rfl) i hi
theorem exC_all : exC.all (·.oneCell') = true := by kernel_rfl

def exBody : List UInt8 := zeros 32 ++ [2, 0] ++ two 5
theorem exBody_len : exBody.length = 36 := rfl
theorem enc_ex (w : World) : Calls Tryd.prog 16 #[.agg exC] w fun e w' => ∃ A c, e = .returned (.tuple #[.slice A 50 c, .nilIface]) ∧ OwnB w' w.heap.size A c (frameL 5 exBody) ∧ Below w.heap.size w w' :=
  encode_ok exC exM _ _ exC_msg (by decide) (by decide) exBody 36 rfl (by omega) w fun w1 _ =>
    body_refuse exC exM _ _ exC_msg rfl (by decide) (by decide) (by decide) (by decide) (by decide) (by decide) w1

set_option maxHeartbeats 16000000 in
theorem works_any (w : World) (ht : Tab w.heap.size w) : Calls Tryd.prog 15 #[] w fun e w' => e = .returned (.bool true) ∧ Below w.heap.size w w' := by
  replace ht := Lib.hid ht
  go_enter Tryd.func15, Tryd.ntmps15
  go_upto_region 1 with fail
  go_step
  have hifE : (Tryd.prog.info? 36).map (·.size) = some exC.size := by kernel_rfl
  have hz36 : Tryd.zeroCells36.size = exC.size := by kernel_rfl
  refine wpList_value (w' := w) rfl (.agg exC) (by kernel_rfl) ?_
  refine wpList_value (w' := w.alloc (.cells Tryd.zeroCells36 36)) rfl (.pointer (some ⟨w.heap.size, 0, none⟩)) (by kernel_rfl) ?_
  refine wpList_skips (w' := w.alloc (.cells exC 36)) rfl ?_ ?_
  · have h := run_storeAt_new (P := Tryd.prog) w 36 Tryd.zeroCells36 exC hifE hz36 exC_all
    show (Instr.storeAt 36 (.pointer (some ⟨w.heap.size, 0, none⟩)) (.agg exC) >>= fun _ => pure Next.skip : Sem Next).run Tryd.prog _ = _
    simp only [Sem.run_bind, h, Result.andThen, Sem.run_pure]
  refine wpList_nil ?_
  simp only [Act.put]
  have hX := Lib.hid (heap_alloc_new w (.cells exC 36))
  have hB1 := boxed w (.cells exC 36)
  generalize w.alloc (.cells exC 36) = w1 at hX hB1 ⊢
  replace hB1 := Lib.hid hB1
  go_upto_region 2 with fail
  go_step
  refine wpList_loadW _ rfl _ _ rfl w.heap.size rfl exC _ hX.out _ Tryd.underlying36 rfl hifE ?_
  go_wp2_with fail
  refine (enc_ex _).mono ?_
  rintro e w2 ⟨A, c, rfl, hO, hB2⟩
  obtain ⟨g, cur, rfl, hg, hgr, hgc⟩ : ∃ g cur, A = some ⟨g, 0, none⟩ ∧ w1.heap.size ≤ g ∧ w2.heap[g]? = some (.cells cur 5 (0, 0)) ∧ (frameL 5 exBody).length ≤ c := by
    rcases hO.form with ⟨_, _, h⟩ | h
    · have h2 : (frameL 5 exBody).length = 50 := by simp [frameL, preL, four, sha_length, exBody_len]
      rw [h] at h2
      cases h2
    · exact h
  have hfl : (frameL 5 exBody).length = 50 := by simp [frameL, preL, four, sha_length, exBody_len]
  rw [hfl] at hgc
  have hgl := heap_lt hgr
  have hbs := Lib.hid hO.bs
  have hX2 := Lib.hid (heap_on hB2 hX.out)
  have hB12 := Lib.hid (later hB1.out hB2)
  have hc49 : (49 : Int) ≤ (c : Int) := by omega
  clear hO hgr hX hB1 hB2
  go_wp2_with fail
  refine (decode_refuse g 0 c (zeros 32) 2 0 5 w2 rfl (by omega) (by omega) hgc hgl hbs.out).mono ?_
  rintro e w3 ⟨cs, rfl, hM, hB3⟩
  rename_i hK
  have hif : (Tryd.prog.info? 36).map (·.size) = some cs.size := by rw [hM.size]; kernel_rfl
  have hzc : Tryd.zeroCells36.size = cs.size := by rw [hM.size]; kernel_rfl
  have hone := hM.one rfl rfl
  have hX3 := Lib.hid (heap_on hB3 hX2.out)
  have hb3 := Lib.hid ((hbs.out.on hB3).take 49)
  have hB13 := Lib.hid (later hB12.out hB3)
  have hz3 := Lib.hid (heap_alloc_new w3 (.cells Tryd.zeroCells36 36))
  have hcs3 := heap_alloc_new w3 (.cells cs 36)
  have hX4 := Lib.hid (heap_on (boxed w3 (.cells cs 36)) hX3.out)
  have hb4 := Lib.hid (hb3.out.on (boxed w3 (.cells cs 36)))
  have hB14 := Lib.hid (later hB13.out (boxed w3 (.cells cs 36)))
  have hrow : (w3.alloc (.cells Tryd.zeroCells36 36)).setRow w3.heap.size cs = w3.alloc (.cells cs 36) := World.setRow_alloc_new _ _ _ _
  replace hrow := Lib.hid hrow
  replace hM := Lib.hid hM
  clear hX2 hbs hB12 hB3 hgl hg
  refine hK _ _ ?_
  clear hK
  go_upto_region 6 with (refine wpList_storeW _ rfl _ _ _ rfl w3.heap.size cs rfl rfl _ _ hz3.out hif hzc hone ?_)
  rw [hrow.out]
  replace hcs3 := Lib.hid hcs3
  have hs4 : (w3.alloc (.cells cs 36)).heap.size = w3.heap.size + 1 := by simp
  generalize w3.alloc (.cells cs 36) = w4 at hX4 hb4 hB14 hcs3 hs4 ⊢
  clear hrow hz3 hX3 hb3 hB13
  go_wp2_with fail
  refine (decode_cut g 0 c exBody w4 exBody_len hgc hb4.out).mono ?_
  rintro e w5 ⟨q, rfl, hF, hB5⟩
  rename_i hK
  have hzif : (Tryd.prog.info? 36).map (·.size) = some Tryd.zeroCells36.size := by kernel_rfl
  have hzone : Tryd.zeroCells36.all (·.oneCell') = true := by kernel_rfl
  have hX5 := Lib.hid (heap_on hB5 hX4.out)
  have hc5 := Lib.hid (heap_on hB5 hcs3.out)
  have hB15 := Lib.hid (later hB14.out hB5)
  have hz5 := Lib.hid (heap_alloc_new w5 (.cells Tryd.zeroCells36 36))
  have hrow : (w5.alloc (.cells Tryd.zeroCells36 36)).setRow w5.heap.size Tryd.zeroCells36 = w5.alloc (.cells Tryd.zeroCells36 36) := World.setRow_alloc_new _ _ _ _
  have hX6 := Lib.hid (heap_on (boxed w5 (.cells Tryd.zeroCells36 36)) hX5.out)
  have hc6 := Lib.hid (heap_on (boxed w5 (.cells Tryd.zeroCells36 36)) hc5.out)
  have hF6 := Lib.hid (hF.on (boxed w5 (.cells Tryd.zeroCells36 36)))
  have hB16 := Lib.hid (later hB15.out (boxed w5 (.cells Tryd.zeroCells36 36)))
  clear hX4 hb4 hB14 hcs3 hB5 hX5 hc5 hB15 hF
  refine hK _ _ ?_
  clear hK
  go_upto_region 7 with (refine wpList_storeW _ rfl _ _ _ rfl w5.heap.size Tryd.zeroCells36 rfl rfl _ _ hz5.out hzif rfl hzone ?_)
  try rw [hrow]
  clear hrow hz5
  generalize w5.alloc (.cells Tryd.zeroCells36 36) = w6 at hX6 hc6 hF6 hB16 ⊢
  have r1 := Lib.hid (show RowAt w6 w.heap.size 0 exC from fun j v h => by rw [Nat.zero_add]; exact cell_of hX6.out h)
  have r4 := Lib.hid (show RowAt w6 w3.heap.size 0 cs from fun j v h => by rw [Nat.zero_add]; exact cell_of hc6.out h)
  have hsm := Lib.hid (sameMessage_true cs exC exM hM.out exC_msg)
  have hfa := Lib.hid (fun (w' : World) (h : Below w6.heap.size w6 w') => fault_true q ⟨kFrame, 49, 3⟩ w' (hF6.out.on h) (by simp [kFrame]) (ht.out.on (later hB16.out h)) (by decide) (by decide) (by decide) (by decide) (by decide))
  go_step
  repeat (first
    | (apply wpList_loadG (hc := r1.out) (hu := Tryd.underlying36) (hi := hifE); (case ho => exact rfl); (case hx => exact rfl); (case hd => rfl); (case hw => simp [Region.wanted, yielded, Act.put]))
    | (apply wpList_loadG (hc := r4.out) (hu := Tryd.underlying36) (hi := hif); (case ho => exact rfl); (case hx => exact rfl); (case hd => rfl); (case hw => simp [Region.wanted, yielded, Act.put]))
    | (refine wpList_step (fun K hK => ?_); go_simp; refine hK _ _ ?_; clear hK)
    | (refine wpList_step (fun K hK => ?_); go_simp; go_at_call 13; refine (hsm.out _).mono ?_; rintro e w7 ⟨rfl, hB7⟩; refine hK _ _ ?_; clear hK)
    | (refine wpList_step (fun K hK => ?_); go_simp; go_at_call 14; refine (hfa.out _ (by assumption)).mono ?_; rintro e w8 ⟨rfl, hB8⟩; refine hK _ _ ?_; clear hK))
  refine wpList_nil ?_
  go_wp2_with fail
  go_ret
  exact ⟨rfl, later (later hB16.out hB7) hB8⟩
end Go.Proofs.YtmnmmabhmedioaaDoor
/- Wire: the law WireSpoilt: the walk. -/
namespace Go.Proofs.YtmnmmabhmedioaaDoor
open Go.RowKit
set_option linter.unusedVariables false
set_option linter.unusedSimpArgs false
set_option maxRecDepth 100000

theorem i64_and3 (n : Int) : bits .and .i64 n 3 = n % 4 := by
  have h3 : (BitVec.ofInt 64 3).toNat = 2 ^ 2 - 1 := by decide
  have key : (BitVec.ofInt 64 n &&& BitVec.ofInt 64 3).toNat = (n % ((2 ^ 64 : Nat) : Int)).toNat % 2 ^ 2 := by
    rw [BitVec.toNat_and, BitVec.toNat_ofInt, h3, Nat.and_two_pow_sub_one_eq_mod]
  show IntKind.i64.wrap ((BitVec.ofInt 64 n &&& BitVec.ofInt 64 3).toNat : Nat) = n % 4
  rw [key, IntKind.wrap_i64]
  omega
theorem b_xor (x y : UInt8) : bits .xor .u8 (nb x) (nb y) = nb (x ^^^ y) := by
  unfold nb
  rw [u8_xor_nat _ _ x.toNat_lt y.toNat_lt, UInt8.toNat_xor]
theorem xor_ne (x y : UInt8) (h : y ≠ 0) : x ^^^ y ≠ x := fun e => h (by
  have h1 : x ^^^ (x ^^^ y) = x ^^^ x := by rw [e]
  rwa [← UInt8.xor_assoc, UInt8.xor_self, UInt8.zero_xor] at h1)

theorem err_eq (v : Value) (w : World) : (binOp BinOp.eql 38 (.iface 79 v) .nilIface).run Tryd.prog w = .ok (.bool false) w := by kernel_rfl
theorem err_ne (v : Value) (w : World) : (binOp BinOp.neq 38 (.iface 79 v) .nilIface).run Tryd.prog w = .ok (.bool true) w := by kernel_rfl
theorem nil_eq (w : World) : (binOp BinOp.eql 38 .nilIface .nilIface).run Tryd.prog w = .ok (.bool true) w := by kernel_rfl
theorem nil_ne (w : World) : (binOp BinOp.neq 38 .nilIface .nilIface).run Tryd.prog w = .ok (.bool false) w := by kernel_rfl

theorem faultM_facts {m : Msg} {f : FD} (h : faultM m = some f) : f.field ≠ [] ∧ 0 ≤ f.at_ ∧ f.at_ ≤ 255 ∧ 0 ≤ f.why ∧ f.why ≤ 300 ∧ f.field.length ≤ 100 := by
  unfold faultM at h
  by_cases c1 : ¬ (1 ≤ m.kind ∧ m.kind ≤ 6)
  · rw [if_pos c1] at h; cases h; exact ⟨by simp [kKind], by decide, by decide, by decide, by decide, by decide⟩
  rw [if_neg c1] at h
  by_cases c2 : ¬ (0 ≤ m.from_ ∧ m.from_ ≤ 255)
  · rw [if_pos c2] at h; cases h; exact ⟨by simp [kFrom], by decide, by decide, by decide, by decide, by decide⟩
  rw [if_neg c2] at h
  by_cases c3 : ¬ (0 ≤ m.to_ ∧ m.to_ ≤ 255)
  · rw [if_pos c3] at h; cases h; exact ⟨by simp [kTo], by decide, by decide, by decide, by decide, by decide⟩
  rw [if_neg c3] at h
  by_cases c4 : m.kind = 2 ∨ m.kind = 4
  · rw [if_pos c4] at h
    by_cases c5 : isId m.pair.id = true
    · rw [if_pos c5] at h; cases h
    · rw [if_neg c5] at h; cases h; exact ⟨by simp [kPair], by decide, by decide, by decide, by decide, by decide⟩
  rw [if_neg c4] at h
  by_cases c6 : m.kind = 3
  · rw [if_pos c6] at h
    by_cases c7 : 255 < m.list.length
    · rw [if_pos c7] at h; cases h; exact ⟨by simp [kList], by decide, by decide, by decide, by decide, by decide⟩
    rw [if_neg c7] at h
    cases hb : listBad 0 m.list with
    | some i =>
      rw [hb] at h; cases h
      obtain ⟨_, h1, _⟩ := listBad_lt m.list 0 i hb
      exact ⟨by simp [kList], by simp, by show (i : Int) ≤ 255; omega, by show (0 : Int) ≤ 4; decide, by show (4 : Int) ≤ 300; decide, by show kList.length ≤ 100; decide⟩
    | none =>
      rw [hb] at h
      by_cases c8 : 1048575 < m.text.length
      · simp only [if_pos c8] at h; cases h; exact ⟨by simp [kText], by decide, by decide, by decide, by decide, by decide⟩
      · simp only [if_neg c8] at h; cases h
  rw [if_neg c6] at h
  by_cases c9 : m.kind = 5
  · rw [if_pos c9] at h
    by_cases c10 : 1 ≤ m.code ∧ m.code ≤ 65535
    · rw [if_pos c10] at h; cases h
    · rw [if_neg c10] at h; cases h; exact ⟨by simp [kCode], by decide, by decide, by decide, by decide, by decide⟩
  rw [if_neg c9] at h; cases h
theorem none_fd (o : Option FD) (h : ∀ f, o = some f → f.field ≠ []) (w : World) :
    Calls Tryd.prog 18 #[.agg (fdA o)] w fun e w' => e = .returned (.bool o.isNone) ∧ Below w.heap.size w w' := by
  cases o with
  | none => exact none_yes _ _ w
  | some f => exact none_no f (h f rfl) w
theorem step_loadR {P : Program} {w : World} {ops : Array Oper} {op : Oper} {a : Act} {K : Act → World → Prop} {Q : Exit → Act → World → Prop} {E : Prop} (hgd : op.guard = none) (ty : TypeId) (x : Operand) (ho : op.op = .load ty x)
    (b o : Nat) (hx : a.eval x = .pointer (some ⟨b, o, none⟩)) (cs : Array Value) (hc : RowAt w b o cs) (d : TypeDesc)
    (hu : P.underlying ty = some d) (hd : d.isRow = true) (hi : (P.info? ty).map (·.size) = some cs.size)
    (h : K (a.put op.dst (.agg cs)) w) : if Region.wanted op (yielded ops a.tmps) = true then Oper.wp P op a w K Q else E := by
  rw [if_pos (by simp [Region.wanted, hgd])]
  have h' := wp_load_mid (P := P) (w := w) (a := a) (K := K) (Q := Q) (op := op) ty x ho b o hx cs.toList d (fun j v hv => hc j v (by simpa using hv)) hu hd (by simpa using hi)
  simp only [Array.toArray_toList] at h'
  exact h' h
theorem rowAt_all {w : World} {X : Nat} {cs : Array Value} {T : TypeId} (h : w.heap[X]? = some (.cells cs T (0, 0))) : RowAt w X 0 cs := fun j v hv => by rw [Nat.zero_add]; exact cell_of h hv

/-- The example passes; a message is encoded: what stands ahead of every law's own test. -/
theorem works_neg (w : World) (ht : Tab w.heap.size w) : Calls Tryd.prog 15 #[] w fun e w' => e = .returned (.bool true) ∧ Below w.heap.size w w' := works_any w ht

set_option maxHeartbeats 16000000 in
theorem spoilt_early (cs : Array Value) (m : Msg) (LA : Option Addr) (lc : Nat) (TA : Option Addr) (tc : Nat) (w : World) (hM : MsgIn w cs m LA lc TA tc) (ht : Tab w.heap.size w) (at_ : Int) (y : UInt8) (hor : faultM m ≠ none ∨ y = 0) :
    Calls Tryd.prog 5 #[.agg cs, .int .i64 at_, .int .u8 (nb y)] w fun e w' => e = .returned (.bool true) ∧ Below w.heap.size w w' := by
  have hX := heap_alloc_new w (.cells cs 36)
  have hB := boxed w (.cells cs 36)
  have hif : (Tryd.prog.info? 36).map (·.size) = some cs.size := by rw [hM.cells.size]; kernel_rfl
  replace hM := Lib.hid hM
  replace ht := Lib.hid ht
  have g1 := err_eq
  have g2 := err_ne
  have g3 := nil_eq
  have g4 := nil_ne
  go_enter Tryd.func5, Tryd.ntmps5
  go_upto_region 1 with fail
  generalize w.alloc (.cells cs 36) = w1 at hX hB ⊢
  replace hX := Lib.hid hX
  replace hB := Lib.hid hB
  go_wp2_with fail
  refine (works_any w1 (ht.out.on hB.out)).mono ?_
  rintro e w2 ⟨rfl, hB2⟩
  have hX2 := Lib.hid (heap_on hB2 hX.out)
  have hB12 := Lib.hid (later hB.out hB2)
  clear hX hB hB2
  have hR2 := Lib.hid (rowAt_all hX2.out)
  go_wp2_with (refine wpList_loadM _ rfl _ _ rfl w.heap.size 0 rfl cs hR2.out _ Tryd.underlying36 rfl hif ?_)
  cases hf : faultM m with
  | some f =>
    refine (encode_bad cs m LA lc TA tc w2 (hM.out.on hB12.out) f hf).mono ?_
    rintro e w3 ⟨q, rfl, hF, hB3⟩
    have hB13 := Lib.hid (later hB12.out hB3)
    have hR3 := Lib.hid (hR2.out.on hB3)
    clear hF
    have hMd : Hid (MsgIn w3.drew cs m LA lc TA tc) := Lib.hid (hM.out.on hB13.out.drew)
    have hRd : Hid (RowAt w3.drew w.heap.size 0 cs) := Lib.hid hR3.out
    have hBd : Hid (Below w.heap.size w w3.drew) := Lib.hid hB13.out.drew
    have hn : Hid (∀ g, faultM m = some g → g.field ≠ []) := Lib.hid fun g hg => (faultM_facts hg).1
    replace hf := Lib.hid hf
    clear hX2 hB12 hR2 hB3 hB13 hR3
    go_upto_region 5 with fail
    refine wp_region_any (by kernel_rfl) ?_
    change wpAny _ _ _ _ _ _ _ w3.drew
    generalize w3.drew = wd at hMd hRd hBd ⊢
    refine wpAny_take (i := 0) (v := errOf q) rfl (by kernel_rfl) (by kernel_rfl) (by kernel_rfl) (fun _ _ _ h => h) (Or.inl ⟨by rfl, ?_⟩) ?_
    · intro w
      go_simp
    refine wpAny_take (i := 1) (v := .bool false) rfl (by kernel_rfl) (by kernel_rfl) (by kernel_rfl) (fun _ _ _ h => h) (Or.inl ⟨by rfl, ?_⟩) ?_
    · intro w
      go_simp
    refine wpAny_ready (rs := [2]) (by kernel_rfl) (by simp) ?_
    refine AllReady.cons rfl (fun K hK => ?_) AllReady.nil
    refine step_loadR rfl _ _ rfl w.heap.size 0 rfl cs hRd.out _ Tryd.underlying36 rfl hif ?_
    refine hK _ _ ?_
    clear hK
    refine wpAny_ready (rs := [3]) (by kernel_rfl) (by simp) ?_
    refine AllReady.cons rfl (fun K hK => ?_) AllReady.nil
    go_simp
    go_at_call 17
    refine (check_any cs m LA lc TA tc _ hMd.out).mono ?_
    rintro e w4 ⟨rfl, hB4⟩
    try go_simp
    refine hK _ _ ?_
    clear hK
    refine wpAny_ready (rs := [4]) (by kernel_rfl) (by simp) ?_
    refine AllReady.cons rfl (fun K hK => ?_) AllReady.nil
    go_simp
    go_at_call 18
    refine (none_fd (faultM m) hn.out _).mono ?_
    rintro e w5 ⟨rfl, hB5⟩
    try go_simp
    refine hK _ _ ?_
    clear hK
    have hBz := Lib.hid (later (later hBd.out hB4) hB5)
    rw [hf.out]
    refine wpAny_take (i := 5) (v := .bool true) rfl (by kernel_rfl) (by kernel_rfl) (by kernel_rfl) (fun _ _ _ h => h) (Or.inl ⟨by rfl, ?_⟩) ?_
    · intro w
      go_simp
    refine wpAny_take (i := 6) (v := .bool true) rfl (by kernel_rfl) (by kernel_rfl) (by kernel_rfl) (fun _ _ _ h => h) (Or.inl ⟨by rfl, ?_⟩) ?_
    · intro w
      go_simp
    refine wpAny_done (by kernel_rfl) ?_ _
    go_wp2_with fail
    go_ret
    exact ⟨rfl, hBz.out⟩
  | none =>
    obtain rfl : y = 0 := by
      rcases hor with h | h
      · exact absurd hf h
      · exact h
    rw [show nb 0 = 0 from rfl]
    refine (encode_good cs m LA lc TA tc w2 (hM.out.on hB12.out) hf).mono ?_
    rintro e w3 ⟨A, c, rfl, hO, hB3⟩
    have hB13 := Lib.hid (later hB12.out hB3)
    have hR3 := Lib.hid (hR2.out.on hB3)
    clear hO hor
    have hMd : Hid (MsgIn w3.drew cs m LA lc TA tc) := Lib.hid (hM.out.on hB13.out.drew)
    have hRd : Hid (RowAt w3.drew w.heap.size 0 cs) := Lib.hid hR3.out
    have hBd : Hid (Below w.heap.size w w3.drew) := Lib.hid hB13.out.drew
    have hn : Hid (∀ g, faultM m = some g → g.field ≠ []) := Lib.hid fun g hg => (faultM_facts hg).1
    replace hf := Lib.hid hf
    clear hX2 hB12 hR2 hB3 hB13 hR3
    go_upto_region 5 with fail
    refine wp_region_any (by kernel_rfl) ?_
    change wpAny _ _ _ _ _ _ _ w3.drew
    generalize w3.drew = wd at hMd hRd hBd ⊢
    refine wpAny_take (i := 0) (v := .nilIface) rfl (by kernel_rfl) (by kernel_rfl) (by kernel_rfl) (fun _ _ _ h => h) (Or.inl ⟨by rfl, ?_⟩) ?_
    · intro w
      go_simp
    refine wpAny_take (i := 1) (v := .bool true) rfl (by kernel_rfl) (by kernel_rfl) (by kernel_rfl) (fun _ _ _ h => h) (Or.inl ⟨by rfl, ?_⟩) ?_
    · intro w
      go_simp
    refine wpAny_ready (rs := [2]) (by kernel_rfl) (by simp) ?_
    refine AllReady.cons rfl (fun K hK => ?_) AllReady.nil
    refine step_loadR rfl _ _ rfl w.heap.size 0 rfl cs hRd.out _ Tryd.underlying36 rfl hif ?_
    refine hK _ _ ?_
    clear hK
    refine wpAny_ready (rs := [3]) (by kernel_rfl) (by simp) ?_
    refine AllReady.cons rfl (fun K hK => ?_) AllReady.nil
    go_simp
    go_at_call 17
    refine (check_any cs m LA lc TA tc _ hMd.out).mono ?_
    rintro e w4 ⟨rfl, hB4⟩
    try go_simp
    refine hK _ _ ?_
    clear hK
    refine wpAny_ready (rs := [4]) (by kernel_rfl) (by simp) ?_
    refine AllReady.cons rfl (fun K hK => ?_) AllReady.nil
    go_simp
    go_at_call 18
    refine (none_fd (faultM m) hn.out _).mono ?_
    rintro e w5 ⟨rfl, hB5⟩
    try go_simp
    refine hK _ _ ?_
    clear hK
    have hBz := Lib.hid (later (later hBd.out hB4) hB5)
    rw [hf.out]
    refine wpAny_take (i := 5) (v := .bool true) rfl (by kernel_rfl) (by kernel_rfl) (by kernel_rfl) (fun _ _ _ h => h) (Or.inl ⟨by rfl, ?_⟩) ?_
    · intro w
      go_simp
    refine wpAny_take (i := 6) (v := .bool true) rfl (by kernel_rfl) (by kernel_rfl) (by kernel_rfl) (fun _ _ _ h => h) (Or.inl ⟨by rfl, ?_⟩) ?_
    · intro w
      go_simp
    refine wpAny_done (by kernel_rfl) ?_ _
    go_wp2_with fail
    go_ret
    exact ⟨rfl, hBz.out⟩
end Go.Proofs.YtmnmmabhmedioaaDoor
/- Wire: the law WireSpoilt: the walk where the frame is turned. -/
namespace Go.Proofs.YtmnmmabhmedioaaDoor
open Go.RowKit
set_option linter.unusedVariables false
set_option linter.unusedSimpArgs false
set_option maxRecDepth 100000

theorem cell_heap {w : World} {b o : Nat} {cs : Array Value} {T : TypeId} {fz : Nat × Nat} {v : Value} (h : w.heap[b]? = some (.cells cs T fz)) (hv : w.cell? ⟨b, o, none⟩ = some v) : cs[o]? = some v := by
  simpa [World.cell?, h] using hv
theorem zrowZ (o n : Nat) (h : (List.range n).map (fun i => Tryd.zeroCells36[o + i]?) = List.replicate n (some (Value.int .u8 0))) (i : Nat) (hi : i < n) : Tryd.zeroCells36[o + i]? = some (B8 0) := by
  have h2 := congrArg (fun l => l[i]?) h
  simp only [List.getElem?_map, List.getElem?_range hi, Option.map_some, List.getElem?_replicate, if_pos hi] at h2
  have e : B8 0 = .int .u8 0 := rfl
  rw [e]
  simpa using h2
/-- The zero message. -/
def zM : Msg := ⟨0, zeros 32, 0, 0, Pair.zero, [], [], zeros 32, zeros 32, zeros 64, 0⟩
theorem zC_msg : MsgC Tryd.zeroCells36 zM (.slice none 0 0) (.slice none 0 0) := by
  refine ⟨by kernel_rfl, by kernel_rfl, ⟨by simp [zM, zeros], fun i hi => ?_⟩, by kernel_rfl, by kernel_rfl, by kernel_rfl, ⟨by simp [zM, Pair.zero, zeros], fun i hi => ?_⟩, ⟨by simp [zM, Pair.zero, zeros], fun i hi => ?_⟩, by kernel_rfl, by kernel_rfl, ⟨by simp [zM, zeros], fun i hi => ?_⟩, ⟨by simp [zM, zeros], fun i hi => ?_⟩, ⟨by simp [zM, zeros], fun i hi => ?_⟩, by kernel_rfl⟩
  · rw [show zM.session = zeros 32 from rfl, zeros_getD]; exact zrowZ 1 32 (by kernel_rfl) i hi
  · rw [show zM.pair.hid = zeros 32 from rfl, zeros_getD]; exact zrowZ 36 32 (by kernel_rfl) i hi
  · rw [show zM.pair.bnd = zeros 32 from rfl, zeros_getD]; exact zrowZ 68 32 (by kernel_rfl) i hi
  · rw [show zM.bind_ = zeros 32 from rfl, zeros_getD]; exact zrowZ 102 32 (by kernel_rfl) i hi
  · rw [show zM.share = zeros 32 from rfl, zeros_getD]; exact zrowZ 134 32 (by kernel_rfl) i hi
  · rw [show zM.sig = zeros 64 from rfl, zeros_getD]; exact zrowZ 166 64 (by kernel_rfl) i hi
theorem zC_size : Tryd.zeroCells36.size = 231 := by kernel_rfl
theorem zC_info : (Tryd.prog.info? 36).map (·.size) = some Tryd.zeroCells36.size := by kernel_rfl
theorem zC_one : Tryd.zeroCells36.all (·.oneCell') = true := by kernel_rfl

/-- One byte of a row is turned. -/
theorem turned_bs {w : World} {g J Q r : Nat} {cur : Array Value} {kd : UInt8} {body s4 : List UInt8} (z : UInt8) (hpl : (preL kd body).length = Q) (h4 : s4.length = 4) (hr : r < 4) (hJ : Q + r = J) (hg : w.heap[g]? = some (.cells cur 5 (0, 0)))
    (hb : Bs w (some ⟨g, 0, none⟩) (preL kd body ++ s4)) : Bs (w.setCell ⟨g, J, none⟩ (B8 z)) (some ⟨g, 0, none⟩) (preL kd body ++ s4.set r z) := Bs.arr fun i hi => by
  have hl : (preL kd body ++ s4).length = Q + 4 := by simp [hpl, h4]
  have hi4 : i < Q + 4 := by simp [hpl, h4] at hi; exact hi
  have hc := hb.at i (by omega)
  have hci := cell_heap hg hc
  rw [Nat.zero_add] at hci ⊢
  refine cell_of (heap_set hg _) ?_
  by_cases e : i = J
  · subst e
    have hlt : i < cur.size := by
      rcases Nat.lt_or_ge i cur.size with h' | h'
      · exact h'
      · rw [Array.getElem?_eq_none h'] at hci; cases hci
    rw [Array.getElem?_setIfInBounds_self_of_lt hlt]
    rw [List.getD_eq_getElem?_getD, List.getElem?_append_right (by omega), hpl, show i - Q = r from by omega, List.getElem?_set_self (by omega)]
    rfl
  · rw [Array.getElem?_setIfInBounds_ne (by omega), hci]
    by_cases h2 : i < Q
    · rw [List.getD_eq_getElem?_getD, List.getElem?_append_left (by omega), List.getD_eq_getElem?_getD, List.getElem?_append_left (by omega)]
    · rw [List.getD_eq_getElem?_getD, List.getElem?_append_right (by omega), List.getD_eq_getElem?_getD, List.getElem?_append_right (by omega), hpl, List.getElem?_set_ne (by omega)]

set_option maxHeartbeats 16000000 in
theorem spoilt_main (cs : Array Value) (m : Msg) (LA : Option Addr) (lc : Nat) (TA : Option Addr) (tc : Nat) (w : World) (hM : MsgIn w cs m LA lc TA tc) (ht : Tab w.heap.size w) (at_ : Int) (y : UInt8) (hf : faultM m = none) (hy : y ≠ 0) :
    Calls Tryd.prog 5 #[.agg cs, .int .i64 at_, .int .u8 (nb y)] w fun e w' => e = .returned (.bool true) ∧ Below w.heap.size w w' := by
  have hX := heap_alloc_new w (.cells cs 36)
  have hB := boxed w (.cells cs 36)
  have hif : (Tryd.prog.info? 36).map (·.size) = some cs.size := by rw [hM.cells.size]; kernel_rfl
  have hkd := faultM_kind hf
  have hfit := hM.fit hf
  replace hM := Lib.hid hM
  replace ht := Lib.hid ht
  have g3 := nil_eq
  have g4 := nil_ne
  have hy0 : (nb y == 0) = false := by
    refine beq_eq_false_iff_ne.2 fun e => hy (nb_inj (by rw [e]; rfl))
  go_enter Tryd.func5, Tryd.ntmps5
  go_upto_region 1 with fail
  generalize w.alloc (.cells cs 36) = w1 at hX hB ⊢
  replace hX := Lib.hid hX
  replace hB := Lib.hid hB
  go_wp2_with fail
  refine (works_any w1 (ht.out.on hB.out)).mono ?_
  rintro e w2 ⟨rfl, hB2⟩
  have hX2 := Lib.hid (heap_on hB2 hX.out)
  have hB12 := Lib.hid (later hB.out hB2)
  clear hX hB hB2
  have hR2 := Lib.hid (rowAt_all hX2.out)
  go_wp2_with (refine wpList_loadM _ rfl _ _ rfl w.heap.size 0 rfl cs hR2.out _ Tryd.underlying36 rfl hif ?_)
  refine (encode_good cs m LA lc TA tc w2 (hM.out.on hB12.out) hf).mono ?_
  rintro e w3 ⟨A, c, rfl, hO, hB3⟩
  have hnk : nb (u8 m.kind) = m.kind := by rw [nb_u8 (by omega)]; omega
  have hk1 : 1 ≤ nb (u8 m.kind) := by omega
  have hk6 : nb (u8 m.kind) ≤ 6 := by omega
  clear hnk hM hkd
  generalize u8 m.kind = kd at hO hk1 hk6
  generalize bodyM m = body at hO hfit ⊢
  obtain ⟨N, hN⟩ : ∃ N, body.length = N := ⟨_, rfl⟩
  obtain ⟨L, hLd⟩ : ∃ L, 14 + N = L := ⟨_, rfl⟩
  obtain ⟨Q, hQd⟩ : ∃ Q, 10 + N = Q := ⟨_, rfl⟩
  have hpl : (preL kd body).length = Q := by rw [preL_len]; omega
  have hfl : (frameL kd body).length = L := by simp [frameL, hpl, sha_length]; omega
  rw [hN] at hfit ⊢
  rw [hLd]
  obtain ⟨g, cur, rfl, hg, hgr, hgc⟩ : ∃ g cur, A = some ⟨g, 0, none⟩ ∧ w2.heap.size ≤ g ∧ w3.heap[g]? = some (.cells cur 5 (0, 0)) ∧ (frameL kd body).length ≤ c := by
    rcases hO.form with ⟨_, _, h⟩ | h
    · rw [h] at hfl
      simp at hfl
      omega
    · exact h
  rw [hfl] at hgc
  have hgl := heap_lt hgr
  have hbs : Bs w3 (some ⟨g, 0, none⟩) (preL kd body ++ (sha (preL kd body)).take 4) := hO.bs
  have hs4 := sha4 (preL kd body)
  have hB13 := Lib.hid (later hB12.out hB3)
  have hgw : w.heap.size ≤ g := Nat.le_trans hB12.out.size hg
  clear hO hB3 hB12 hR2 hX2 hfl
  obtain ⟨r, hr, hr4⟩ : ∃ r : Nat, bits .and .i64 at_ 3 = (r : Int) ∧ r < 4 := ⟨(at_ % 4).toNat, by rw [i64_and3]; omega, by omega⟩
  obtain ⟨J, hJ⟩ : ∃ J, Q + r = J := ⟨_, rfl⟩
  have hjQ : Q ≤ J ∧ J < L ∧ J - Q = r := by omega
  have hj0 : (0 : Int) ≤ (J : Int) := Int.natCast_nonneg _
  have hjL : (J : Int) < (L : Int) := Int.ofNat_lt.2 hjQ.2.1
  have hLq : L ≤ 1065203 ∧ L - 4 = Q ∧ J ≤ 1065203 := by omega
  have hcJ : w3.cell? ⟨g, J, none⟩ = some (B8 ((preL kd body ++ (sha (preL kd body)).take 4).getD J 0)) := by
    have h := hbs.at J (by simp [hpl, sha_length]; omega)
    rwa [Nat.zero_add] at h
  have hxd : (preL kd body ++ (sha (preL kd body)).take 4).getD J 0 = ((sha (preL kd body)).take 4).getD r 0 := by
    rw [List.getD_eq_getElem?_getD, List.getElem?_append_right (by omega), hpl, hjQ.2.2, ← List.getD_eq_getElem?_getD]
  rw [hxd] at hcJ
  have hne : ((sha (preL kd body)).take 4).set r ((((sha (preL kd body)).take 4).getD r 0) ^^^ y) ≠ (sha (preL kd body)).take 4 := fun e => by
    have h := congrArg (fun l => l.getD r 0) e
    have h1 : (((sha (preL kd body)).take 4).set r ((((sha (preL kd body)).take 4).getD r 0) ^^^ y)).getD r 0 = (((sha (preL kd body)).take 4).getD r 0) ^^^ y := by
      rw [List.getD_eq_getElem?_getD, List.getElem?_set_self (by omega)]
      rfl
    exact xor_ne _ y hy (h1.symm.trans h)
  have hbt := turned_bs ((((sha (preL kd body)).take 4).getD r 0) ^^^ y) hpl hs4 hr4 hJ hgr hbs
  have hl4 : (((sha (preL kd body)).take 4).set r ((((sha (preL kd body)).take 4).getD r 0) ^^^ y)).length = 4 := by rw [List.length_set]; exact hs4
  generalize ((sha (preL kd body)).take 4).set r ((((sha (preL kd body)).take 4).getD r 0) ^^^ y) = t4 at hne hbt hl4
  generalize ((sha (preL kd body)).take 4).getD r 0 = x at hcJ hbt
  have hfz : w3.frozen? ⟨g, J, none⟩ = false := free_of hgr
  have hxor := b_xor x y
  have hK4 : Keep (fun k => k = g) w3 (w3.setCell ⟨g, J, none⟩ (B8 (x ^^^ y))) := Keep.set (fun k => k = g) g J _ rfl
  have hB4 := Lib.hid (below_keep hB13.out hK4 (fun i e => by omega) hB13.out.size)
  have hgl4 : g < (w3.setCell ⟨g, J, none⟩ (B8 (x ^^^ y))).heap.size := by simpa using hgl
  replace hbt := Lib.hid hbt
  replace hne := Lib.hid hne
  clear hbs hxd hs4 hgr hK4
  have hi1 : (L : Int) - 4 = (Q : Int) := by omega
  have hi2 : (Q : Int) + (r : Int) = (J : Int) := by omega
  go_upto_region 8 with fail
  generalize w3.setCell ⟨g, J, none⟩ (B8 (x ^^^ y)) = w4 at hbt hB4 hgl4 ⊢
  clear hcJ hfz hxor hB13
  go_wp2_with fail
  refine (decode_sumbad g 0 c kd body t4 w4 N L Q hk1 hk6 hN hfit hl4 hLd hQd hgc hgl4 hne.out hbt.out).mono ?_
  rintro e w5 ⟨q, rfl, hF, hB5⟩
  rename_i hK
  have hB15 := Lib.hid (later' hB4.out hB5 hB4.out.size)
  have hz5 := Lib.hid (heap_alloc_new w5 (.cells Tryd.zeroCells36 36))
  have hrow : (w5.alloc (.cells Tryd.zeroCells36 36)).setRow w5.heap.size Tryd.zeroCells36 = w5.alloc (.cells Tryd.zeroCells36 36) := World.setRow_alloc_new _ _ _ _
  have hF6 := Lib.hid (hF.on (boxed w5 (.cells Tryd.zeroCells36 36)))
  have hB16 := Lib.hid (later' hB15.out (boxed w5 (.cells Tryd.zeroCells36 36)) hB15.out.size)
  have hz6 := Lib.hid (heap_alloc_new w5 (.cells Tryd.zeroCells36 36))
  have hzif := zC_info
  have hzone := zC_one
  clear hbt hB4 hgl4 hF hB5 hB15
  refine hK _ _ ?_
  clear hK
  go_upto_region 9 with (refine wpList_storeW _ rfl _ _ _ rfl w5.heap.size Tryd.zeroCells36 rfl rfl _ _ hz5.out hzif rfl hzone ?_)
  try rw [hrow]
  clear hrow hz5
  generalize w5.alloc (.cells Tryd.zeroCells36 36) = w6 at hz6 hF6 hB16 ⊢
  have r6 := Lib.hid (rowAt_all hz6.out)
  have hsm := Lib.hid (sameMessage_true Tryd.zeroCells36 Tryd.zeroCells36 zM zC_msg zC_msg)
  have hQb : (Q : Int) ≤ 1099511627776 := by omega
  have hq0 : (0 : Int) ≤ (Q : Int) := by omega
  have hwQ2 : IntKind.i64.wrap (Q : Int) = (Q : Int) := by rw [IntKind.wrap_i64]; omega
  have hfa := Lib.hid (fun (w' : World) (h : Below w6.heap.size w6 w') => fault_true q ⟨kSum, (Q : Int), 103⟩ w' (hF6.out.on h) (by simp [kSum]) (ht.out.on (later' hB16.out h hB16.out.size)) hq0 hQb (by show (0 : Int) ≤ 103; decide) (by show (103 : Int) ≤ 1099511627776; decide) (by show kSum.length ≤ 100; decide))
  go_step
  refine wpList_loadM _ rfl _ _ rfl w5.heap.size 0 rfl Tryd.zeroCells36 r6.out _ Tryd.underlying36 rfl hzif ?_
  refine wpList_value (w' := w6) rfl (.agg Tryd.zeroCells36) (by kernel_rfl) ?_
  refine wpList_step (fun K hK => ?_); go_simp
  go_at_call 13
  refine (hsm.out _).mono ?_
  rintro e w7 ⟨rfl, hB7⟩
  refine hK _ _ ?_
  clear hK
  refine wpList_step (fun K hK => ?_); go_simp; refine hK _ _ ?_; clear hK
  refine wpList_step (fun K hK => ?_); go_simp; refine hK _ _ ?_; clear hK
  refine wpList_step (fun K hK => ?_); go_simp; refine hK _ _ ?_; clear hK
  refine wpList_step (fun K hK => ?_); go_simp; refine hK _ _ ?_; clear hK
  refine wpList_step (fun K hK => ?_); go_simp; refine hK _ _ ?_; clear hK
  refine wpList_step (fun K hK => ?_); go_simp; refine hK _ _ ?_; clear hK
  refine wpList_step (fun K hK => ?_); go_simp
  go_at_call 14
  refine (hfa.out _ (by assumption)).mono ?_
  rintro e w8 ⟨rfl, hB8⟩
  refine hK _ _ ?_
  clear hK
  refine wpList_step (fun K hK => ?_); go_simp; refine hK _ _ ?_; clear hK
  refine wpList_step (fun K hK => ?_); go_simp; refine hK _ _ ?_; clear hK
  refine wpList_nil ?_
  go_wp2_with fail
  go_ret
  exact ⟨rfl, later (later hB16.out hB7) hB8⟩
theorem spoilt_walk (cs : Array Value) (m : Msg) (LA : Option Addr) (lc : Nat) (TA : Option Addr) (tc : Nat) (w : World) (hM : MsgIn w cs m LA lc TA tc) (ht : Tab w.heap.size w) (at_ : Int) (y : UInt8) :
    Calls Tryd.prog 5 #[.agg cs, .int .i64 at_, .int .u8 (nb y)] w fun e w' => e = .returned (.bool true) ∧ Below w.heap.size w w' := by
  by_cases hy : y = 0
  · exact spoilt_early cs m LA lc TA tc w hM ht at_ y (.inr hy)
  cases hf : faultM m with
  | some f => exact spoilt_early cs m LA lc TA tc w hM ht at_ y (.inl (by rw [hf]; exact fun h => by cases h))
  | none => exact spoilt_main cs m LA lc TA tc w hM ht at_ y hf hy
end Go.Proofs.YtmnmmabhmedioaaDoor
/- Wire: are two lists of bytes, two lists of commitments the same? (any two) -/
namespace Go.Proofs.YtmnmmabhmedioaaDoor
open Go.RowKit
set_option linter.unusedVariables false
set_option linter.unusedSimpArgs false
set_option maxRecDepth 100000

theorem take_succ_eq {α : Type} {xs ys : List α} {k : Nat} {z : α} (h : xs.take k = ys.take k) (hx : k < xs.length) (hy : k < ys.length) (he : xs.getD k z = ys.getD k z) : xs.take (k + 1) = ys.take (k + 1) := by
  rw [List.take_succ_eq_append_getElem hx, List.take_succ_eq_append_getElem hy, h]
  rw [List.getD_eq_getElem?_getD, List.getD_eq_getElem?_getD, List.getElem?_eq_getElem hx, List.getElem?_eq_getElem hy] at he
  have he' : xs[k] = ys[k] := by simpa using he
  rw [he']
theorem nb_ne {x y : UInt8} (h : x ≠ y) : (nb x == nb y) = false := beq_eq_false_iff_ne.2 fun e => h (nb_inj e)

set_option maxHeartbeats 4000000 in
theorem sameBytes_any (A B : Option Addr) (c d : Nat) (xs ys : List UInt8) (w : World) (hx : Bs w A xs) (hy : Bs w B ys) (hl : xs.length ≤ 140737488351232) (hl2 : ys.length ≤ 140737488351232) :
    Calls Tryd.prog 19 #[.slice A xs.length c, .slice B ys.length d] w fun e w' => e = .returned (.bool (decide (xs = ys))) ∧ ∃ m, w' = w.drewN m := by
  replace hx := Lib.hid hx
  replace hy := Lib.hid hy
  by_cases hn : xs.length = ys.length
  · have hn2 : ys.length = xs.length := hn.symm
    clear hn
    go_enter Tryd.func19, Tryd.ntmps19
    go_wp2
    go_loopw [5] (fun i wr => ∃ k : Nat, k ≤ xs.length ∧ i = .int .i64 k ∧ Hid (xs.take k = ys.take k) ∧ ∃ m, wr = w.drewN m) (fun i _ => xs.length - (intOf i).toNat)
    case atStart => exact ⟨0, Nat.zero_le _, rfl, Lib.hid (by simp), 0, rfl⟩
    case round =>
      obtain ⟨k, hk, rfl, he, m, hwr⟩ := hrel
      replace hwr := Lib.hid hwr
      rcases Nat.lt_or_ge k xs.length with hlt | hge
      · obtain ⟨b1, o1, rfl, H1⟩ := hx.out (by omega)
        obtain ⟨b2, o2, rfl, H2⟩ := hy.out (by omega)
        have c1 : wr.cell? ⟨b1, o1 + k, none⟩ = some (B8 (xs.getD k 0)) := by rw [hwr.out]; exact H1 k hlt
        have c2 : wr.cell? ⟨b2, o2 + k, none⟩ = some (B8 (ys.getD k 0)) := by rw [hwr.out]; exact H2 k (by omega)
        clear H1 H2
        have k0 : (0 : Int) ≤ (k : Int) := by omega
        have k1 : (k : Int) < (xs.length : Int) := by omega
        by_cases e : xs.getD k 0 = ys.getD k 0
        · have hs := Lib.hid (take_succ_eq he.out hlt (by omega) e)
          rw [← e] at c2
          replace e := Lib.hid e
          generalize xs.getD k 0 = x at c1 c2
          go_wp2_with fail
          go_quiet (fail)
          go_wp2_with fail
          exact ⟨⟨k + 1, by omega, by go_num, hs, m + nq, by rw [hwr.out, World.drewN_drewN]⟩, by simp [intOf]; omega⟩
        · have hne := nb_ne e
          have hxy : Hid (xs ≠ ys) := Lib.hid fun h => e (by rw [h])
          replace e := Lib.hid e
          generalize xs.getD k 0 = x at c1 hne
          generalize ys.getD k 0 = y at c2 hne
          go_wp2_with fail
          go_quiet (fail)
          go_wp2_with fail
          go_ret
          exact ⟨congrArg (fun b => Ending.returned (Value.bool b)) (decide_eq_false hxy.out).symm, m + nq, by rw [hwr.out, World.drewN_drewN]⟩
      · have : k = xs.length := by omega
        subst this
        go_wp2
        go_ret
        have h := he.out
        rw [List.take_length, ← hn2, List.take_length] at h
        exact ⟨congrArg (fun b => Ending.returned (Value.bool b)) (decide_eq_true h).symm, m, hwr.out⟩
  · have hxy : Hid (xs ≠ ys) := Lib.hid fun h => hn (by rw [h])
    have h1 : ((xs.length : Int) == (ys.length : Int)) = false := beq_eq_false_iff_ne.2 (by omega)
    replace hn := Lib.hid hn
    go_enter Tryd.func19, Tryd.ntmps19
    go_wp2
    go_ret
    exact ⟨congrArg (fun b => Ending.returned (Value.bool b)) (decide_eq_false hxy.out).symm, 0, rfl⟩
end Go.Proofs.YtmnmmabhmedioaaDoor
