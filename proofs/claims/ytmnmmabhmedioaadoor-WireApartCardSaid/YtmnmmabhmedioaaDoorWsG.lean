/- Wire: Encode of any message. -/
import Derived.Test.YtmnmmabhmedioaaDoorWsF
import Derived.Test.YtmnmmabhmedioaaDoorWrK
namespace Go.Proofs.YtmnmmabhmedioaaDoor
open Go.RowKit
set_option linter.unusedVariables false
set_option linter.unusedSimpArgs false
set_option maxRecDepth 100000

theorem restM_len {m : Msg} (hp : ∀ i, PairOk (m.list.getD i Pair.zero)) (hpp : PairOk m.pair) (hb : m.bind_.length = 32) (hs : m.share.length = 32) (hg : m.sig.length = 64) (hf : faultM m = none) : (restM m).length ≤ 1065155 := by
  have h65 := pairL_len hpp
  unfold restM
  by_cases h2 : m.kind = 2
  · rw [if_pos h2, h65]; omega
  rw [if_neg h2]
  by_cases h3 : m.kind = 3
  · rw [if_pos h3]
    have hl := pairsL_len hp
    have h : m.list.length ≤ 255 ∧ m.text.length ≤ 1048575 := by
      unfold faultM at hf
      by_cases c1 : ¬ (1 ≤ m.kind ∧ m.kind ≤ 6)
      · rw [if_pos c1] at hf; cases hf
      by_cases c2 : ¬ (0 ≤ m.from_ ∧ m.from_ ≤ 255)
      · rw [if_neg c1, if_pos c2] at hf; cases hf
      by_cases c3 : ¬ (0 ≤ m.to_ ∧ m.to_ ≤ 255)
      · rw [if_neg c1, if_neg c2, if_pos c3] at hf; cases hf
      rw [if_neg c1, if_neg c2, if_neg c3, if_neg (by omega), if_pos h3] at hf
      split at hf; · cases hf
      split at hf; · cases hf
      split at hf; · cases hf
      omega
    simp [four, hl]
    omega
  rw [if_neg h3]
  by_cases h4 : m.kind = 4
  · rw [if_pos h4]
    simp [h65, hb, hs]
  rw [if_neg h4]
  by_cases h5 : m.kind = 5
  · rw [if_pos h5]; simp [two]
  rw [if_neg h5]
  by_cases h6 : m.kind = 6
  · rw [if_pos h6]; omega
  rw [if_neg h6]
  simp
theorem MsgIn.fit {w : World} {cs : Array Value} {m : Msg} {LA : Option Addr} {lc : Nat} {TA : Option Addr} {tc : Nat} (h : MsgIn w cs m LA lc TA tc) (hf : faultM m = none) : (bodyM m).length ≤ 1065189 := by
  have h1 := restM_len h.pok ⟨h.cells.hid.1, h.cells.bnd.1⟩ h.cells.bind_.1 h.cells.share.1 h.cells.sig.1 hf
  have h2 := h.cells.session.1
  simp [bodyM]
  omega
theorem faultM_kind {m : Msg} (hf : faultM m = none) : 1 ≤ m.kind ∧ m.kind ≤ 6 := by
  unfold faultM at hf
  split at hf
  · cases hf
  · omega

theorem body_ok (cs : Array Value) (m : Msg) (LA : Option Addr) (lc : Nat) (TA : Option Addr) (tc : Nat) (w : World) (hM : MsgIn w cs m LA lc TA tc) (hf : faultM m = none) :
    Calls Tryd.prog 52 #[.agg cs] w (Body w (bodyM m).length (bodyM m)) := by
  have hk := faultM_kind hf
  unfold faultM at hf
  rw [if_neg (by omega)] at hf
  split at hf; · cases hf
  split at hf; · cases hf
  have hd : m.kind = 1 ∨ m.kind = 2 ∨ m.kind = 3 ∨ m.kind = 4 ∨ m.kind = 5 ∨ m.kind = 6 := by omega
  rcases hd with h | h | h | h | h | h
  · exact body_1 cs m LA lc TA tc w hM h (by omega) (by omega) (by omega) (by omega)
  · rw [if_pos (by omega)] at hf
    split at hf
    · exact body_2 cs m LA lc TA tc w hM h (by omega) (by omega) (by omega) (by omega) (by assumption)
    · cases hf
  · rw [if_neg (by omega), if_pos h] at hf
    split at hf; · cases hf
    split at hf; · cases hf
    split at hf; · cases hf
    exact body_3 cs m LA lc TA tc w hM h (by omega) (by omega) (by omega) (by omega) (by omega) (by assumption) (by omega)
  · rw [if_pos (by omega)] at hf
    split at hf
    · exact body_4 cs m LA lc TA tc w hM h (by omega) (by omega) (by omega) (by omega) (by assumption)
    · cases hf
  · rw [if_neg (by omega), if_neg (by omega), if_pos h] at hf
    split at hf
    · have e : bodyM m = m.session ++ [u8 m.from_, u8 m.to_] ++ two m.code.toNat := by simp [bodyM, restM, h]
      have hl : (bodyM m).length = 36 := by rw [e]; simp [two, hM.cells.session.1]
      refine (body_refuse cs m _ _ hM.cells h (by omega) (by omega) (by omega) (by omega) (by omega) (by omega) w).mono ?_
      rintro e1 w1 ⟨A, c, rfl, h2, h3⟩
      exact ⟨A, c, by rw [hl], by rw [e]; exact h2, h3⟩
    · cases hf
  · exact body_6 cs m LA lc TA tc w hM h (by omega) (by omega) (by omega) (by omega)

abbrev BodyBad (w : World) (f : FD) (e : Ending) (w' : World) : Prop := ∃ b, e = Threw b ∧ w.heap.size ≤ b ∧ FaultAt w' b f ∧ Below w.heap.size w w'
theorem body_no (cs : Array Value) (m : Msg) (LA : Option Addr) (lc : Nat) (TA : Option Addr) (tc : Nat) (w : World) (hM : MsgIn w cs m LA lc TA tc) (f : FD) (hf : faultM m = some f) :
    Calls Tryd.prog 52 #[.agg cs] w (BodyBad w f) := by
  unfold faultM at hf
  by_cases k1 : m.kind < 1
  · rw [if_pos (by omega)] at hf; cases hf
    exact bad_kind1 cs m LA lc TA tc w hM k1
  by_cases k6 : ¬ m.kind ≤ 6
  · rw [if_pos (by omega)] at hf; cases hf
    exact bad_kind2 cs m LA lc TA tc w hM k6
  rw [if_neg (by omega)] at hf
  by_cases f0 : m.from_ < 0
  · rw [if_pos (by omega)] at hf; cases hf
    exact bad_from1 cs m LA lc TA tc w hM (by omega) (by omega) f0
  by_cases f1 : ¬ m.from_ ≤ 255
  · rw [if_pos (by omega)] at hf; cases hf
    exact bad_from2 cs m LA lc TA tc w hM (by omega) (by omega) (by omega) f1
  rw [if_neg (by omega)] at hf
  by_cases t0 : m.to_ < 0
  · rw [if_pos (by omega)] at hf; cases hf
    exact bad_to1 cs m LA lc TA tc w hM (by omega) (by omega) (by omega) (by omega) t0
  by_cases t1 : ¬ m.to_ ≤ 255
  · rw [if_pos (by omega)] at hf; cases hf
    exact bad_to2 cs m LA lc TA tc w hM (by omega) (by omega) (by omega) (by omega) (by omega) t1
  rw [if_neg (by omega)] at hf
  by_cases h24 : m.kind = 2 ∨ m.kind = 4
  · rw [if_pos h24] at hf
    by_cases hi : isId m.pair.id = true
    · rw [if_pos hi] at hf; cases hf
    · rw [if_neg hi] at hf; cases hf
      rcases h24 with h | h
      · exact bad_pair2 cs m LA lc TA tc w hM h (by omega) (by omega) (by omega) (by omega) (by simpa using hi)
      · exact bad_pair4 cs m LA lc TA tc w hM h (by omega) (by omega) (by omega) (by omega) (by simpa using hi)
  rw [if_neg h24] at hf
  by_cases h3 : m.kind = 3
  · rw [if_pos h3] at hf
    by_cases hl : 255 < m.list.length
    · rw [if_pos hl] at hf; cases hf
      exact bad_count cs m LA lc TA tc w hM h3 (by omega) (by omega) (by omega) (by omega) hl
    rw [if_neg hl] at hf
    cases hb : listBad 0 m.list with
    | some i =>
      rw [hb] at hf
      cases hf
      obtain ⟨_, h1, h2, h4⟩ := listBad_lt m.list 0 i hb
      exact body_3bad cs m LA lc TA tc w hM h3 (by omega) (by omega) (by omega) (by omega) (by omega) i (by omega) (by simpa using h4) (fun _ => by simpa using h2) (fun h => by omega) _ (fun _ => rfl) (fun h => by omega)
    | none =>
      rw [hb] at hf
      have h4 := listBad_none m.list 0 hb
      by_cases ht : 1048575 < m.text.length
      · simp only [if_pos ht] at hf; cases hf
        exact body_3bad cs m LA lc TA tc w hM h3 (by omega) (by omega) (by omega) (by omega) (by omega) m.list.length (Nat.le_refl _) h4 (fun h => by omega) (fun _ => ht) _ (fun h => by omega) (fun _ => rfl)
      · simp only [if_neg ht] at hf; cases hf
  rw [if_neg h3] at hf
  by_cases h5 : m.kind = 5
  · rw [if_pos h5] at hf
    by_cases hc : 1 ≤ m.code ∧ m.code ≤ 65535
    · rw [if_pos hc] at hf; cases hf
    · rw [if_neg hc] at hf; cases hf
      by_cases c1 : m.code < 1
      · exact bad_code1 cs m LA lc TA tc w hM h5 (by omega) (by omega) (by omega) (by omega) c1
      · exact bad_code2 cs m LA lc TA tc w hM h5 (by omega) (by omega) (by omega) (by omega) (by omega) (by omega)
  rw [if_neg h5] at hf
  cases hf

theorem encode_good (cs : Array Value) (m : Msg) (LA : Option Addr) (lc : Nat) (TA : Option Addr) (tc : Nat) (w : World) (hM : MsgIn w cs m LA lc TA tc) (hf : faultM m = none) :
    Calls Tryd.prog 16 #[.agg cs] w fun e w' => ∃ A c, e = .returned (.tuple #[.slice A (14 + (bodyM m).length) c, .nilIface]) ∧ OwnB w' w.heap.size A c (frameL (u8 m.kind) (bodyM m)) ∧ Below w.heap.size w w' := by
  have hk := faultM_kind hf
  have hl := hM.fit hf
  exact encode_ok cs m _ _ hM.cells hk.1 hk.2 (bodyM m) _ rfl (by omega) w fun w1 hb => by
    exact body_ok cs m LA lc TA tc w1 (hM.on hb) hf

set_option maxHeartbeats 8000000 in
theorem encode_bad (cs : Array Value) (m : Msg) (LA : Option Addr) (lc : Nat) (TA : Option Addr) (tc : Nat) (w : World) (hM : MsgIn w cs m LA lc TA tc) (f : FD) (hf : faultM m = some f) :
    Calls Tryd.prog 16 #[.agg cs] w fun e w' => ∃ q, e = .returned (.tuple #[.slice none 0 0, errOf q]) ∧ FaultAt w' q f ∧ Below w.heap.size w w' := by
  have hC := hM.cells
  replace hM := Lib.hid hM
  replace hf := Lib.hid hf
  go_enter_defers Tryd.func16, Tryd.ntmps16
  go_upto_region 2 with fail
  have hX : ((w.alloc (.cells cs 36)).alloc (.cells #[.nilIface] 38)).heap[w.heap.size]? = some (.cells cs 36 (0, 0)) := by
    rw [heap_alloc?, if_neg (by simp)]; exact heap_alloc_new w _
  have hE : ((w.alloc (.cells cs 36)).alloc (.cells #[.nilIface] 38)).heap[w.heap.size + 1]? = some (.cells #[.nilIface] 38 (0, 0)) := by
    rw [heap_alloc?, if_pos (by simp)]
  have hB : Below w.heap.size w ((w.alloc (.cells cs 36)).alloc (.cells #[.nilIface] 38)) := later (boxed _ _) (boxed _ _)
  have hs : ((w.alloc (.cells cs 36)).alloc (.cells #[.nilIface] 38)).heap.size = w.heap.size + 2 := by simp
  generalize ((w.alloc (.cells cs 36)).alloc (.cells #[.nilIface] 38)) = w1 at hX hE hB hs ⊢
  have hif : (Tryd.prog.info? 36).map (·.size) = some cs.size := by rw [hC.size]; kernel_rfl
  replace hE := Lib.hid hE
  go_step
  refine wpList_loadW _ rfl _ _ rfl w.heap.size rfl cs _ hX _ Tryd.underlying36 rfl hif ?_
  clear hX hif
  go_wp2_with fail
  refine (body_no cs m LA lc TA tc w1 (hM.out.on hB) f hf.out).mono ?_
  rintro e w3 ⟨q, rfl, hq, hF, hB3⟩
  have hE3 := heap_on hB3 hE.out
  have hB33 := later' hB hB3
  have ce : w3.cell? ⟨w.heap.size + 1, 0, none⟩ = some .nilIface := cell_of hE3 rfl
  have cf : w3.frozen? ⟨w.heap.size + 1, 0, none⟩ = false := free_of hE3
  have hq2 : w.heap.size + 2 ≤ q := by omega
  clear hE hB hB3 hq
  replace hE3 := Lib.hid hE3
  replace hF := Lib.hid hF
  replace hB33 := Lib.hid hB33
  go_wp2_with fail
  have hEf := cell_of (heap_set (o := 0) hE3.out (errOf q)) (off := 0) rfl
  have hKf : Keep (fun k => k = w.heap.size + 1) w3 (w3.setCell ⟨w.heap.size + 1, 0, none⟩ (errOf q)) := Keep.set (fun k => k = w.heap.size + 1) _ _ _ rfl
  have hFf : FaultAt (w3.setCell ⟨w.heap.size + 1, 0, none⟩ (errOf q)) q f := hKf.heap (show ¬ q = w.heap.size + 1 by omega) hF.out
  have hBf := below_keep hB33.out hKf (fun i e => by omega) hB33.out.size
  refine leaves_cons (f := 36) (args := #[.pointer (some ⟨w.heap.size + 1, 0, none⟩)]) (by simp) (by simp [go_sem]) ?_
  refine (caught_panicking ⟨w.heap.size + 1, 0, none⟩ q .nilIface [] _ ce cf).mono ?_
  rintro e u' w'' ⟨rfl, rfl, rfl⟩
  simp [Leaves, settle, results, Tryd.results16, go_sem, hEf]
  exact ⟨hFf, hBf⟩
end Go.Proofs.YtmnmmabhmedioaaDoor
