/- Wire: numbers as bytes. -/
import Derived.Test.YtmnmmabhmedioaaDoorM1
import Derived.Lib.SlBytesConst
namespace Go.Proofs.YtmnmmabhmedioaaDoor
open Go.RowKit
set_option linter.unusedVariables false
set_option linter.unusedSimpArgs false
set_option maxRecDepth 100000

def four (n : Nat) : List UInt8 := [UInt8.ofNat (n / 16777216), UInt8.ofNat (n / 65536), UInt8.ofNat (n / 256), UInt8.ofNat n]
def two (n : Nat) : List UInt8 := [UInt8.ofNat (n / 256), UInt8.ofNat n]
theorem b8_of (n : Nat) : nb (UInt8.ofNat n) = (n : Int) % 256 := by unfold nb; rw [UInt8.toNat_ofNat']; omega

theorem OwnB.made (w : World) (l : List UInt8) (h : l.length ≤ 1000) : OwnB (w.alloc (.cells (l.map B8).toArray 5)) w.heap.size (some ⟨w.heap.size, 0, none⟩) l.length l := by
  refine ⟨by simp, .inr ⟨w.heap.size, l.length, _, rfl, Nat.le_refl _, heap_alloc_new w _, Nat.le_refl _, by unfold maxLen; omega, by simp, ?_⟩⟩
  show List.take (l.length * 1) (l.map B8) = _
  rw [List.take_of_length_le (by simp)]

set_option maxHeartbeats 4000000 in
theorem highest4 (n : Nat) (hn : n ≤ 1099511627776) (w : World) :
    Calls Tryd.prog 53 #[.int .i64 (n : Int), .int .i64 4] w fun e w' => e = .returned (.slice (some ⟨w.heap.size, 0, none⟩) 4 4) ∧ OwnB w' w.heap.size (some ⟨w.heap.size, 0, none⟩) 4 (four n) ∧ Below w.heap.size w w' := by
  have hm : (Instr.makeSlice 22 (.int .i64 4) (.int .i64 4)).run Tryd.prog w = .ok (.slice (some ⟨w.heap.size, 0, none⟩) 4 4) (w.alloc (.cells #[.int .u8 0, .int .u8 0, .int .u8 0, .int .u8 0] 5)) := by kernel_rfl
  go_enter Tryd.func53, Tryd.ntmps53
  go_wp2
  refine wp_loop_rounds 5 ?_
  rw [rounds_succ]
  go_wp2
  rw [rounds_succ]
  go_wp2
  rw [rounds_succ]
  go_wp2
  rw [rounds_succ]
  go_wp2
  rw [rounds_succ]
  go_wp2
  go_ret
  have e : #[Value.int IntKind.u8 ((n : Int) / 16777216 % 256), Value.int IntKind.u8 ((n : Int) / 65536 % 256), Value.int IntKind.u8 ((n : Int) / 256 % 256), Value.int IntKind.u8 ((n : Int) % 256)] = ((four n).map B8).toArray := by simp [four, B8, b8_of]
  rw [e]
  exact ⟨rfl, OwnB.made w (four n) (by simp [four]), boxed _ _⟩

set_option maxHeartbeats 4000000 in
theorem highest2 (n : Nat) (hn : n ≤ 1099511627776) (w : World) :
    Calls Tryd.prog 53 #[.int .i64 (n : Int), .int .i64 2] w fun e w' => e = .returned (.slice (some ⟨w.heap.size, 0, none⟩) 2 2) ∧ OwnB w' w.heap.size (some ⟨w.heap.size, 0, none⟩) 2 (two n) ∧ Below w.heap.size w w' := by
  have hm : (Instr.makeSlice 22 (.int .i64 2) (.int .i64 2)).run Tryd.prog w = .ok (.slice (some ⟨w.heap.size, 0, none⟩) 2 2) (w.alloc (.cells #[.int .u8 0, .int .u8 0] 5)) := by kernel_rfl
  go_enter Tryd.func53, Tryd.ntmps53
  go_wp2
  refine wp_loop_rounds 3 ?_
  rw [rounds_succ]
  go_wp2
  rw [rounds_succ]
  go_wp2
  rw [rounds_succ]
  go_wp2
  go_ret
  have e : #[Value.int IntKind.u8 ((n : Int) / 256 % 256), Value.int IntKind.u8 ((n : Int) % 256)] = ((two n).map B8).toArray := by simp [two, B8, b8_of]
  rw [e]
  exact ⟨rfl, OwnB.made w (two n) (by simp [two]), boxed _ _⟩

/-- The number of bytes, the highest first. -/
def numL (l : List UInt8) : Nat := l.foldl (fun n x => n * 256 + x.toNat) 0
theorem numL_take_succ {l : List UInt8} {k : Nat} (h : k < l.length) : numL (l.take (k + 1)) = numL (l.take k) * 256 + (l.getD k 0).toNat := by
  unfold numL
  rw [List.take_succ_eq_append_getElem h, List.foldl_append, List.getD_eq_getElem?_getD, List.getElem?_eq_getElem h]
  rfl
theorem numL_lt (l : List UInt8) : numL l < 256 ^ l.length := by
  have h : ∀ (l : List UInt8) (n : Nat), l.foldl (fun n x => n * 256 + x.toNat) n < (n + 1) * 256 ^ l.length := by
    intro l
    induction l with
    | nil => intro n; simp
    | cons x l ih =>
      intro n
      have hx := x.toNat_lt
      have := ih (n * 256 + x.toNat)
      simp only [List.foldl_cons, List.length_cons, Nat.pow_succ]
      refine Nat.lt_of_lt_of_le this ?_
      rw [Nat.mul_comm (256 ^ l.length) 256, ← Nat.mul_assoc]
      exact Nat.mul_le_mul_right _ (by omega)
  simpa [numL] using h l 0
theorem numL_four (n : Nat) (h : n < 4294967296) : numL (four n) = n := by
  simp only [numL, four, List.foldl_cons, List.foldl_nil, UInt8.toNat_ofNat']
  omega
theorem numL_two (n : Nat) (h : n < 65536) : numL (two n) = n := by
  simp only [numL, two, List.foldl_cons, List.foldl_nil, UInt8.toNat_ofNat']
  omega
theorem or_add (n : Nat) (x : UInt8) (h : n < 16777216) : bits .or .i64 ((n : Int) * 256) (nb x) = ((n * 256 + x.toNat : Nat) : Int) := by
  have hx := nb_bd x
  have e : (2 : Int) ^ 63 = 9223372036854775808 := rfl
  rw [bits_join .i64 63 (by decide) (fun n h0 h1 => by rw [IntKind.wrap_i64]; omega) 8 _ _ (by omega) (by omega) (by omega) hx.1 (by omega) (by omega)]
  unfold nb
  omega

set_option maxHeartbeats 4000000 in
theorem numberOf_any (A : Option Addr) (c : Nat) (l : List UInt8) (w : World) (hb : Bs w A l) (hl : l.length ≤ 4) :
    Calls Tryd.prog 43 #[.slice A l.length c] w fun e w' => e = .returned (.int .i64 (numL l : Int)) ∧ w = w' := by
  have HB := Lib.hid hb
  clear hb
  go_enter Tryd.func43, Tryd.ntmps43
  go_wp2
  go_loopw [3, 8] (fun s i wr => ∃ k : Nat, k ≤ l.length ∧ i = .int .i64 k ∧ s = .int .i64 (numL (l.take k) : Int) ∧ w = wr) (fun _ i _ => l.length - (intOf i).toNat)
  case atStart => exact ⟨0, Nat.zero_le _, rfl, by simp [numL], rfl⟩
  case round =>
    obtain ⟨k, hk, rfl, rfl, rfl⟩ := hrel
    rcases Nat.lt_or_ge k l.length with hlt | hge
    · obtain ⟨b, o, rfl, H⟩ := HB.out (by omega)
      have c1 := H k hlt
      have hs := Lib.hid (numL_take_succ hlt)
      have hn := numL_lt (l.take k)
      have hk3 : k ≤ 3 := by omega
      have hn2 : numL (l.take k) < 16777216 := Nat.lt_of_lt_of_le hn (by
        rw [List.length_take, Nat.min_eq_left (by omega)]
        calc 256 ^ k ≤ 256 ^ 3 := Nat.pow_le_pow_right (by omega) hk3
          _ = 16777216 := rfl)
      have hor := or_add (numL (l.take k)) (l.getD k 0) hn2
      clear hn H HB
      generalize l.getD k 0 = x at *
      generalize numL (l.take k) = n at *
      have hw : IntKind.i64.wrap ((n : Int) * 256) = (n : Int) * 256 := by rw [IntKind.wrap_i64]; omega
      have k0 : (0 : Int) ≤ (k : Int) := by omega
      have k1 : (k : Int) < (l.length : Int) := by omega
      have hwx : wrap64 (nb x) = nb x := by have := nb_bd x; exact IntWalk.wrap64_in _ ⟨by omega, by omega⟩
      go_wp2
      exact ⟨⟨k + 1, by omega, by go_num, by rw [hs.out]; simp, trivial⟩, by simp [intOf]; omega⟩
    · have : k = l.length := by omega
      subst this
      rw [List.take_length]
      go_wp2
      go_ret
      exact ⟨rfl, rfl⟩
end Go.Proofs.YtmnmmabhmedioaaDoor
/- Wire: what was given up by panic is caught. -/
namespace Go.Proofs.YtmnmmabhmedioaaDoor
open Go.RowKit
set_option linter.unusedVariables false
set_option linter.unusedSimpArgs false
set_option maxRecDepth 100000

theorem ta_caught (v : Value) (w : World) : (Instr.typeAssert (.iface 79 v) 20 79 true).run Tryd.prog w = .ok (.tuple #[v, .bool true]) w := by kernel_rfl
theorem eq_caught (v : Value) (w : World) : (binOp BinOp.eql 20 (.iface 79 v) .nilIface).run Tryd.prog w = .ok (.bool false) w := by kernel_rfl
theorem caught_panicking (p : Addr) (b : Nat) (x : Value) (older : List PanicEntry) (w : World) (hc : w.cell? p = some x) (hz : w.frozen? p = false) :
    CallsD Tryd.prog 36 #[.pointer (some p)] (.panicking ({ v := errOf b, recovered := false } :: older)) w fun e u' w' =>
      e = .returned (.tuple #[]) ∧ u' = .panicking ({ v := errOf b, recovered := true } :: older) ∧ w' = w.setCell p (errOf b) := by
  have h1 := ta_caught
  have h2 := eq_caught
  refine callsD_of_wpS Tryd.func36 rfl fun c₀ cs hu => ?_
  apply wpS_seq
  apply wpS_region
  simp [wpOpsS, go_sem, recoverD, hu, Tryd.ntmps36, Exit.thenS]
  refine wpS_of_wp ?_
  change Code.wp _ _ _ { tmps := #[.pointer (some p), undef, undef, undef, undef, errOf b, undef, undef, undef, undef, undef, undef, undef, undef, undef], defers := [] } w
  go_wp2
  simp [bodyPostS, results, Tryd.results36]

theorem caught_idle (p : Addr) (w : World) :
    CallsD Tryd.prog 36 #[.pointer (some p)] .returning w fun e u' w' => e = .returned (.tuple #[]) ∧ u' = .returning ∧ w' = w := by
  refine callsD_of_wpS Tryd.func36 rfl fun c₀ cs hu => ?_
  apply wpS_seq
  apply wpS_region
  simp [wpOpsS, go_sem, recoverD, hu, Tryd.ntmps36, Exit.thenS]
  refine wpS_of_wp ?_
  change Code.wp _ _ _ { tmps := #[.pointer (some p), undef, undef, undef, undef, .nilIface, undef, undef, undef, undef, undef, undef, undef, undef, undef], defers := [] } w
  go_wp2
  cases c₀
  simp_all [bodyPostS, results, Tryd.results36]
end Go.Proofs.YtmnmmabhmedioaaDoor
/- Wire: a frame's kind and length. -/
namespace Go.Proofs.YtmnmmabhmedioaaDoor
open Go.RowKit
set_option linter.unusedVariables false
set_option linter.unusedSimpArgs false
set_option maxRecDepth 100000

theorem need_same (s at_ why : Value) (w : World) : Calls Tryd.prog 38 #[.bool true, s, at_, why] w fun e w' => e = .returned (.tuple #[]) ∧ w' = w :=
  (need_true s at_ why w).mono fun _ _ h => ⟨h.1, h.2.symm⟩

theorem need_dec {p : Prop} [Decidable p] (hp : p) (s at_ why : Value) (w : World) : Calls Tryd.prog 38 #[.bool (decide p), s, at_, why] w fun e w' => e = .returned (.tuple #[]) ∧ w' = w := by
  rw [decide_eq_true hp]
  exact need_same s at_ why w

/-- A frame's head. -/
def headL (kd : UInt8) (ns rest : List UInt8) : List UInt8 := 82 :: 73 :: 77 :: 69 :: 1 :: kd :: (ns ++ rest)

set_option maxHeartbeats 8000000 in
theorem peek_ok (b o c : Nat) (kd : UInt8) (ns rest : List UInt8) (w : World) (hns : ns.length = 4) (hk1 : 1 ≤ nb kd) (hk6 : nb kd ≤ 6) (hn : numL ns ≤ 1065189) (hr : rest.length ≤ 1099511627776) (hc : 10 + rest.length ≤ c)
    (hb : Bs w (some ⟨b, o, none⟩) (headL kd ns rest)) :
    Calls Tryd.prog 37 #[.slice (some ⟨b, o, none⟩) (10 + rest.length) c] w fun e w' => e = .returned (.tuple #[.int .i64 (nb kd), .int .i64 (10 + (numL ns : Int) + 4)]) ∧ ∃ m, w' = w.drewN m := by
  have hlen : (headL kd ns rest).length = 10 + rest.length := by simp [headL, hns]; omega
  have x : ∀ i, i < 10 + rest.length → w.cell? ⟨b, o + i, none⟩ = some (B8 ((headL kd ns rest).getD i 0)) := fun i hi => hb.at i (by rw [hlen]; omega)
  have x0 : w.cell? ⟨b, o, none⟩ = some (.int .u8 82) := x 0 (by omega)
  have x1 : w.cell? ⟨b, o + 1, none⟩ = some (.int .u8 73) := x 1 (by omega)
  have x2 : w.cell? ⟨b, o + 2, none⟩ = some (.int .u8 77) := x 2 (by omega)
  have x3 : w.cell? ⟨b, o + 3, none⟩ = some (.int .u8 69) := x 3 (by omega)
  have x4 : w.cell? ⟨b, o + 4, none⟩ = some (.int .u8 1) := x 4 (by omega)
  have x5 : w.cell? ⟨b, o + 5, none⟩ = some (.int .u8 (nb kd)) := x 5 (by omega)
  have hs : Bs w (some ⟨b, o + 6, none⟩) ns := by
    have h := (hb.drop 6).take 4
    have e : ((headL kd ns rest).drop 6).take 4 = ns := by
      show List.take 4 (ns ++ rest) = ns
      rw [List.take_append_of_le_length (by omega), List.take_of_length_le (by omega)]
    rw [e] at h
    exact h
  replace hs := Lib.hid hs
  clear x hb hlen
  have c1 : (10 : Int) ≤ (c : Int) := by omega
  have c2 : (0 : Int) ≤ (rest.length : Int) := by omega
  go_enter Tryd.func37, Tryd.ntmps37
  go_wp2_with fail
  go_loopw [4, 6] (fun _ i wr => ∃ k : Nat, k ≤ 4 ∧ i = .int .i64 k ∧ ∃ m, wr = w.drewN m) (fun _ i _ => 4 - (intOf i).toNat)
  case atStart => exact ⟨0, by omega, rfl, 0, rfl⟩
  case round =>
    obtain ⟨k, hk, rfl, m, hwr⟩ := hrel
    have y0 : wr.cell? ⟨b, o, none⟩ = some (.int .u8 82) := by rw [hwr]; exact x0
    have y1 : wr.cell? ⟨b, o + 1, none⟩ = some (.int .u8 73) := by rw [hwr]; exact x1
    have y2 : wr.cell? ⟨b, o + 2, none⟩ = some (.int .u8 77) := by rw [hwr]; exact x2
    have y3 : wr.cell? ⟨b, o + 3, none⟩ = some (.int .u8 69) := by rw [hwr]; exact x3
    have y4 : wr.cell? ⟨b, o + 4, none⟩ = some (.int .u8 1) := by rw [hwr]; exact x4
    have y5 : wr.cell? ⟨b, o + 5, none⟩ = some (.int .u8 (nb kd)) := by rw [hwr]; exact x5
    have ys : Bs wr (some ⟨b, o + 6, none⟩) ns := by rw [hwr]; exact hs.out
    replace hwr := Lib.hid hwr
    replace ys := Lib.hid ys
    clear x0 x1 x2 x3 x4 x5
    rcases Nat.lt_or_ge k 4 with hlt | hge
    · have : k = 0 ∨ k = 1 ∨ k = 2 ∨ k = 3 := by omega
      rcases this with rfl | rfl | rfl | rfl
      all_goals
        first
          | rw [show ((0 : Nat) : Int) = 0 from rfl]
          | rw [show ((1 : Nat) : Int) = 1 from rfl]
          | rw [show ((2 : Nat) : Int) = 2 from rfl]
          | rw [show ((3 : Nat) : Int) = 3 from rfl]
        go_wp2_with fail
        refine (need_dec (by omega) _ _ _ _).mono ?_
        rintro e w' ⟨rfl, rfl⟩
        go_wp2_with fail
        go_quiet ((go_at_call 38; exact Calls.quiet_of_same (need_same _ _ _ _)))
        go_wp2_with fail
        first
          | exact ⟨⟨1, by omega, rfl, m + nq, by rw [hwr.out, World.drewN_drewN]⟩, by simp [intOf]⟩
          | exact ⟨⟨2, by omega, rfl, m + nq, by rw [hwr.out, World.drewN_drewN]⟩, by simp [intOf]⟩
          | exact ⟨⟨3, by omega, rfl, m + nq, by rw [hwr.out, World.drewN_drewN]⟩, by simp [intOf]⟩
          | exact ⟨⟨4, by omega, rfl, m + nq, by rw [hwr.out, World.drewN_drewN]⟩, by simp [intOf]⟩
    · have : k = 4 := by omega
      subst this
      rw [show ((4 : Nat) : Int) = 4 from rfl]
      clear hk hge y0 y1 y2 y3
      go_wp2_with fail
      refine (need_dec (by omega) _ _ _ _).mono ?_
      rintro e w' ⟨rfl, rfl⟩
      go_wp2_with fail
      refine (need_same _ _ _ _).mono ?_
      rintro e w' ⟨rfl, rfl⟩
      go_wp2_with fail
      refine (need_dec (by omega) _ _ _ _).mono ?_
      rintro e w' ⟨rfl, rfl⟩
      go_wp2_with fail
      refine (need_same _ _ _ _).mono ?_
      rintro e w' ⟨rfl, rfl⟩
      go_wp2_with fail
      refine (need_dec (by omega) _ _ _ _).mono ?_
      rintro e w' ⟨rfl, rfl⟩
      go_wp2_with fail
      have hnb := (numberOf_any (some ⟨b, o + 6, none⟩) (c - 6) ns w' ys.out (by omega))
      rw [hns] at hnb
      refine hnb.mono ?_
      rintro e w' ⟨rfl, rfl⟩
      clear hnb
      go_wp2_with fail
      refine (need_dec (by omega) _ _ _ _).mono ?_
      rintro e w' ⟨rfl, rfl⟩
      have hkd : IntKind.i64.wrap (nb kd) = nb kd := by rw [IntKind.wrap_i64]; omega
      have hadd : wrap64 (10 + (numL ns : Int)) = 10 + (numL ns : Int) := IntWalk.wrap64_in _ ⟨by omega, by omega⟩
      go_wp2_with fail
      go_ret2
      exact ⟨rfl, m, hwr.out⟩
end Go.Proofs.YtmnmmabhmedioaaDoor
/- Wire: a message in memory; the body of a refusal. -/
namespace Go.Proofs.YtmnmmabhmedioaaDoor
open Go.RowKit
set_option linter.unusedVariables false
set_option linter.unusedSimpArgs false
set_option maxRecDepth 100000

structure Pair where
  id : Int
  hid : List UInt8
  bnd : List UInt8
structure Msg where
  kind : Int
  session : List UInt8
  from_ : Int
  to_ : Int
  pair : Pair
  list : List Pair
  text : List UInt8
  bind_ : List UInt8
  share : List UInt8
  sig : List UInt8
  code : Int
def RowC (cs : Array Value) (o n : Nat) (l : List UInt8) : Prop := l.length = n ∧ ∀ i, i < n → cs[o + i]? = some (B8 (l.getD i 0))
/-- A message's cells (lv, tv: the heads of its list and its text). -/
structure MsgC (cs : Array Value) (m : Msg) (lv tv : Value) : Prop where
  size : cs.size = 231
  kind : cs[0]? = some (.int .i64 m.kind)
  session : RowC cs 1 32 m.session
  from_ : cs[33]? = some (.int .i64 m.from_)
  to_ : cs[34]? = some (.int .i64 m.to_)
  pid : cs[35]? = some (.int .i64 m.pair.id)
  hid : RowC cs 36 32 m.pair.hid
  bnd : RowC cs 68 32 m.pair.bnd
  list : cs[100]? = some lv
  text : cs[101]? = some tv
  bind_ : RowC cs 102 32 m.bind_
  share : RowC cs 134 32 m.share
  sig : RowC cs 166 64 m.sig
  code : cs[230]? = some (.int .i64 m.code)
theorem RowC.bs {cs : Array Value} {o n : Nat} {l : List UInt8} (h : RowC cs o n l) {w : World} {X : Nat} {T : TypeId} {fz : Nat × Nat} (hX : w.heap[X]? = some (.cells cs T fz)) : Bs w (some ⟨X, o, none⟩) l :=
  Bs.arr fun i hi => cell_of hX (h.2 i (by rw [← h.1]; exact hi))

theorem OwnB.lower {w : World} {base B : Nat} {A : Option Addr} {c : Nat} {l : List UInt8} (h : OwnB w base A c l) (hb : B ≤ base) : OwnB w B A c l := by
  rcases h.2 with ⟨hv, h1⟩ | ⟨g, cap, cur, hv, h2, h3⟩
  · exact ⟨h.1, .inl ⟨hv, h1⟩⟩
  · exact ⟨h.1, .inr ⟨g, cap, cur, hv, Nat.le_trans hb h2, h3⟩⟩
def u8 (n : Int) : UInt8 := UInt8.ofNat n.toNat
theorem nb_u8 {n : Int} (h0 : 0 ≤ n) : nb (u8 n) = n % 256 := by
  unfold u8
  rw [b8_of]
  omega
theorem Bs.two (w : World) (x y : UInt8) (T : TypeId) : Bs (w.alloc (.cells #[.int .u8 (nb x), .int .u8 (nb y)] T)) (some ⟨w.heap.size, 0, none⟩) [x, y] := fun _ => ⟨_, _, rfl, fun i hi => by
  have : i = 0 ∨ i = 1 := by simp at hi; omega
  rcases this with rfl | rfl
  · exact cell_of (heap_alloc_new w _) rfl
  · exact cell_of (heap_alloc_new w _) rfl⟩

set_option maxHeartbeats 8000000 in
theorem body_refuse (cs : Array Value) (m : Msg) (lv tv : Value) (hC : MsgC cs m lv tv) (hk : m.kind = 5) (f0 : 0 ≤ m.from_) (f1 : m.from_ ≤ 255) (t0 : 0 ≤ m.to_) (t1 : m.to_ ≤ 255) (c0 : 1 ≤ m.code) (c1 : m.code ≤ 65535) (w : World) :
    Calls Tryd.prog 52 #[.agg cs] w fun e w' => ∃ A c, e = .returned (.slice A 36 c) ∧ OwnB w' w.heap.size A c (m.session ++ [u8 m.from_, u8 m.to_] ++ two m.code.toNat) ∧ Below w.heap.size w w' := by
  obtain ⟨i0, hi0, hz0, hz1, hz2⟩ := info_parts inf5
  have hX := heap_alloc_new w (.cells cs 36)
  have hB := boxed w (.cells cs 36)
  have hs : (w.alloc (.cells cs 36)).heap.size = w.heap.size + 1 := by simp
  have hl := hC.session.1
  go_enter Tryd.func52, Tryd.ntmps52
  go_upto_region 1 with fail
  generalize w.alloc (.cells cs 36) = w1 at hX hB hs ⊢
  have k0 : w1.cell? ⟨w.heap.size, 0, none⟩ = some (.int .i64 5) := by rw [← hk]; exact cell_of hX hC.kind
  have k33 : w1.cell? ⟨w.heap.size, 33, none⟩ = some (.int .i64 m.from_) := cell_of hX hC.from_
  have k34 : w1.cell? ⟨w.heap.size, 34, none⟩ = some (.int .i64 m.to_) := cell_of hX hC.to_
  have k230 : w1.cell? ⟨w.heap.size, 230, none⟩ = some (.int .i64 m.code) := cell_of hX hC.code
  have hS := Lib.hid (hC.session.bs hX)
  replace hX := Lib.hid hX
  replace hB := Lib.hid hB
  go_wp2_with fail
  refine (need_same _ _ _ _).mono ?_
  rintro e w' ⟨rfl, rfl⟩
  go_wp2_with fail
  refine (need_same _ _ _ _).mono ?_
  rintro e w1 ⟨rfl, rfl⟩
  go_wp2_with fail
  refine (need_same _ _ _ _).mono ?_
  rintro e w1 ⟨rfl, rfl⟩
  go_wp2_with (at_builtin; go_must (refine wpList_append_bs _ rfl _ _ 22 rfl (w.heap.size + 1) i0 Tryd.underlying22 hi0 hz0 hz1 hz2 none 0 0 [] rfl rfl (OwnB.nil _ _) (some ⟨w.heap.size, 1, none⟩) 32 32 m.session hl rfl hS.out ?q1 ?q2 ?_))
  case q1 => simp; omega
  case q2 => omega
  intro A2 c2 w2 hO2 hg2 hat2
  have hB2 : Below (w.heap.size + 1) w1 w2 := below_grew (Below.refl _ _) (OwnB.nil w1 (w.heap.size + 1)) (Nat.le_refl _) (by omega) hg2
  have k33 : w2.cell? ⟨w.heap.size, 33, none⟩ = some (.int .i64 m.from_) := (hB2.cell (p := ⟨w.heap.size, 33, none⟩) (Nat.lt_succ_self _)).trans k33
  have k34 : w2.cell? ⟨w.heap.size, 34, none⟩ = some (.int .i64 m.to_) := (hB2.cell (p := ⟨w.heap.size, 34, none⟩) (Nat.lt_succ_self _)).trans k34
  have k0 : w2.cell? ⟨w.heap.size, 0, none⟩ = some (.int .i64 5) := (hB2.cell (p := ⟨w.heap.size, 0, none⟩) (Nat.lt_succ_self _)).trans k0
  have k230 : w2.cell? ⟨w.heap.size, 230, none⟩ = some (.int .i64 m.code) := (hB2.cell (p := ⟨w.heap.size, 230, none⟩) (Nat.lt_succ_self _)).trans k230
  have hs2 := hB2.size
  have e1 := nb_u8 f0
  have e2 := nb_u8 t0
  have e3 : m.from_ % 256 = m.from_ := by omega
  have e4 : m.to_ % 256 = m.to_ := by omega
  rw [e3] at e1
  rw [e4] at e2
  have hb2 := Bs.two w2 (u8 m.from_) (u8 m.to_) 5
  rw [e1, e2] at hb2
  replace hb2 := Lib.hid hb2
  replace hO2 := Lib.hid hO2
  replace hB2 := Lib.hid hB2
  replace e1 := Lib.hid e1
  replace e2 := Lib.hid e2
  clear hg2 hat2
  go_wp2_with (at_builtin; go_must (refine wpList_append_bs _ rfl _ _ 22 rfl (w.heap.size + 1) i0 Tryd.underlying22 hi0 hz0 hz1 hz2 A2 32 c2 m.session hl rfl (hO2.out.on (boxed _ _)) (some ⟨w2.heap.size, 0, none⟩) 2 2 [u8 m.from_, u8 m.to_] rfl rfl hb2.out ?q3 ?q4 ?_))
  case q3 => simp; omega
  case q4 => simp; omega
  intro A3 c3 w3 hO3 hg3 hat3
  have hB3 : Below (w.heap.size + 1) w2 w3 := below_grew (boxed _ _ |> fun h => h.mono (by omega)) (hO2.out.on (boxed _ _)) (Nat.le_refl _) (by simp; omega) hg3
  have k0 : w3.cell? ⟨w.heap.size, 0, none⟩ = some (.int .i64 5) := (hB3.cell (p := ⟨w.heap.size, 0, none⟩) (Nat.lt_succ_self _)).trans k0
  have k230 : w3.cell? ⟨w.heap.size, 230, none⟩ = some (.int .i64 m.code) := (hB3.cell (p := ⟨w.heap.size, 230, none⟩) (Nat.lt_succ_self _)).trans k230
  have hs3 := hB3.size
  replace hO3 := Lib.hid hO3
  replace hB3 := Lib.hid hB3
  clear hg3 hat3 hb2
  go_wp2_with fail
  refine (need_same _ _ _ _).mono ?_
  rintro e w3 ⟨rfl, rfl⟩
  obtain ⟨n, hn⟩ := Int.eq_ofNat_of_zero_le (show 0 ≤ m.code by omega)
  rw [hn] at k230 c0 c1
  go_wp2_with fail
  refine (highest2 n (by omega) _).mono ?_
  rintro e w4 ⟨rfl, hO4, hB4⟩
  have hb4 := Lib.hid hO4.bs
  have hO5 := Lib.hid (hO3.out.on hB4)
  have hs4 := hB4.size
  replace hB4 := Lib.hid hB4
  replace hO4 := Lib.hid hO4
  go_wp2_with (at_builtin; go_must (refine wpList_append_bs _ rfl _ _ 22 rfl (w.heap.size + 1) i0 Tryd.underlying22 hi0 hz0 hz1 hz2 A3 34 c3 (m.session ++ [u8 m.from_, u8 m.to_]) (by simp [hl]) rfl hO5.out _ 2 2 (two n) rfl rfl hb4.out ?q5 ?q6 ?_))
  case q5 => simp [two]; omega
  case q6 => omega
  intro A6 c6 w6 hO6 hg6 hat6
  have hB6 : Below (w.heap.size + 1) w3 w6 := below_grew (hB4.out.mono (by omega)) hO5.out (Nat.le_refl _) (by omega) hg6
  replace hO6 := Lib.hid hO6
  replace hB6 := Lib.hid hB6
  clear hg6 hat6
  go_wp2_with fail
  go_ret
  refine ⟨A6, c6, rfl, ?_, ?_⟩
  · have h := OwnB.lower (B := w.heap.size) hO6.out (Nat.le_succ _)
    rw [hn, Int.toNat_natCast, List.append_assoc]
    exact h
  · have h1 : Below w.heap.size w1 w6 := (hB2.out.trans (hB3.out.trans hB6.out)).mono (by omega)
    exact hB.out.trans h1
end Go.Proofs.YtmnmmabhmedioaaDoor
/- append(bytes, bytes...) where there is no room, onto whatever can be read. -/
namespace Go.Proofs.YtmnmmabhmedioaaDoor
open Go.RowKit
set_option linter.unusedVariables false
set_option linter.unusedSimpArgs false
section
variable {P : Program} (w : World)
theorem run_append_bs_grow (t ty : TypeId) (i : TypeInfo) (ht : P.underlying t = some (.slice 5)) (hi : P.info? 5 = some i) (hz : i.zero = some (.int .u8 0))
    (hs : i.size = 1) (hby : i.bytes = 1) (b o c : Nat) (xs : List UInt8) (hx : ∀ i, i < xs.length → w.cell? ⟨b, o + i, none⟩ = some (B8 (xs.getD i 0)))
    (b2 o2 d : Nat) (l : List UInt8) (hl : ∀ i, i < l.length → w.cell? ⟨b2, o2 + i, none⟩ = some (B8 (l.getD i 0))) (hm : xs.length + l.length ≤ 140737488355328) (hc : c < xs.length + l.length) :
    ∃ c' w', (Builtin.append_ #[t, t] ty #[.slice (some ⟨b, o, none⟩) xs.length c, .slice (some ⟨b2, o2, none⟩) l.length d]).run P w = .ok (.slice (some ⟨w.heap.size, 0, none⟩) (xs.length + l.length) c') w' ∧
      OwnB w' w.heap.size (some ⟨w.heap.size, 0, none⟩) c' (xs ++ l) ∧ Below w.heap.size w w' := by
  have hr := run_append_grow (P := P) w t ty 5 i (.int .u8 0) ht hi hz ⟨b, o, none⟩ xs.length c (xs.map B8) (by simp [hs]) (news_bs hx) ⟨b2, o2, none⟩ l.length d (l.map B8) (by simp [hs]) (news_bs hl) hc (by omega) (by rw [hby]; exact growslice_fits hc (by omega))
  refine ⟨_, _, hr, ?_, (boxed w.drew _).mono (Nat.le_refl _) |> fun h => ⟨h.os, h.tape, h.output, h.size, h.block⟩⟩
  have hge := grownCap_ge w (xs.length + l.length) c 5
  have hcm := grownCap_le_maxLen w (xs.length + l.length) c 5 (by unfold maxLen; omega)
  refine ⟨by simp, .inr ⟨w.heap.size, _, _, by rw [List.length_append], Nat.le_refl _, heap_alloc_new w.drew _, by rw [List.length_append]; exact hge, hcm, ?_, ?_⟩⟩
  · simp [size_zeroCells, Value.cells]
    omega
  · simp only [Array.toList_append, List.append_assoc, List.map_append, Nat.mul_one]
    rw [← List.append_assoc, ← List.map_append]
    have e : ((xs ++ l).map B8).length = (xs ++ l).length := by simp
    rw [← e]
    exact List.take_left
theorem wpList_append_bs_grow {ops : Array Oper} {rest : List Oper} {o1 : Oper} {a : Act} {Q : Exit → Act → World → Prop} (hgd : o1.guard = none) (s x : Operand) (t : TypeId)
    (ho : o1.op = .call { callee := .builtin .append, args := #[s, x], argTypes := #[t, t] })
    (i : TypeInfo) (ht : P.underlying t = some (.slice 5)) (hi : P.info? 5 = some i) (hz : i.zero = some (.int .u8 0)) (hsz : i.size = 1) (hby : i.bytes = 1)
    (b o n c : Nat) (xs : List UInt8) (hn : xs.length = n) (hs : a.eval s = .slice (some ⟨b, o, none⟩) n c) (hxs : ∀ i, i < xs.length → w.cell? ⟨b, o + i, none⟩ = some (B8 (xs.getD i 0)))
    (b2 o2 m d : Nat) (l : List UInt8) (hl : l.length = m) (hx : a.eval x = .slice (some ⟨b2, o2, none⟩) m d) (hls : ∀ i, i < l.length → w.cell? ⟨b2, o2 + i, none⟩ = some (B8 (l.getD i 0)))
    (hm : xs.length + l.length ≤ 140737488355328) (hc : c < xs.length + l.length)
    (h : ∀ c' w', OwnB w' w.heap.size (some ⟨w.heap.size, 0, none⟩) c' (xs ++ l) → Below w.heap.size w w' → wpList P ops Q rest (a.put o1.dst (.slice (some ⟨w.heap.size, 0, none⟩) (n + m) c')) w') : wpList P ops Q (o1 :: rest) a w := by
  subst hn
  subst hl
  obtain ⟨c', w', hr, h2, h3⟩ := run_append_bs_grow (P := P) w t o1.type i ht hi hz hsz hby b o c xs hxs b2 o2 d l hls hm hc
  refine wpList_plain hgd fun K hK => ?_
  unfold Oper.wp execOp
  simp only [ho, resolve, invoke, builtin, Sem.run_bind, Sem.run_pure, Result.andThen_ok, List.map_toArray, List.map_cons, List.map_nil, hs, hx, hr]
  exact hK _ _ (h c' w' h2 h3)
end
end Go.Proofs.YtmnmmabhmedioaaDoor
