/- Wire: a message in memory; the body of a refusal. -/
import Derived.Test.YtmnmmabhmedioaaDoorWrE
namespace Go.Proofs.YtmnmmabhmedioaaDoor
open Go.RowKit
set_option linter.unusedVariables false
set_option linter.unusedSimpArgs false
set_option maxRecDepth 100000

structure Pair where
  id : Int
  hid : List UInt8
  bnd : List UInt8
structure Msg where
  kind : Int
  session : List UInt8
  from_ : Int
  to_ : Int
  pair : Pair
  list : List Pair
  text : List UInt8
  bind_ : List UInt8
  share : List UInt8
  sig : List UInt8
  code : Int
def RowC (cs : Array Value) (o n : Nat) (l : List UInt8) : Prop := l.length = n ∧ ∀ i, i < n → cs[o + i]? = some (B8 (l.getD i 0))
/-- A message's cells (lv, tv: the heads of its list and its text). -/
structure MsgC (cs : Array Value) (m : Msg) (lv tv : Value) : Prop where
  size : cs.size = 231
  kind : cs[0]? = some (.int .i64 m.kind)
  session : RowC cs 1 32 m.session
  from_ : cs[33]? = some (.int .i64 m.from_)
  to_ : cs[34]? = some (.int .i64 m.to_)
  pid : cs[35]? = some (.int .i64 m.pair.id)
  hid : RowC cs 36 32 m.pair.hid
  bnd : RowC cs 68 32 m.pair.bnd
  list : cs[100]? = some lv
  text : cs[101]? = some tv
  bind_ : RowC cs 102 32 m.bind_
  share : RowC cs 134 32 m.share
  sig : RowC cs 166 64 m.sig
  code : cs[230]? = some (.int .i64 m.code)
theorem RowC.bs {cs : Array Value} {o n : Nat} {l : List UInt8} (h : RowC cs o n l) {w : World} {X : Nat} {T : TypeId} {fz : Nat × Nat} (hX : w.heap[X]? = some (.cells cs T fz)) : Bs w (some ⟨X, o, none⟩) l :=
  Bs.arr fun i hi => cell_of hX (h.2 i (by rw [← h.1]; exact hi))

theorem OwnB.lower {w : World} {base B : Nat} {A : Option Addr} {c : Nat} {l : List UInt8} (h : OwnB w base A c l) (hb : B ≤ base) : OwnB w B A c l := by
  rcases h.2 with ⟨hv, h1⟩ | ⟨g, cap, cur, hv, h2, h3⟩
  · exact ⟨h.1, .inl ⟨hv, h1⟩⟩
  · exact ⟨h.1, .inr ⟨g, cap, cur, hv, Nat.le_trans hb h2, h3⟩⟩
def u8 (n : Int) : UInt8 := UInt8.ofNat n.toNat
theorem nb_u8 {n : Int} (h0 : 0 ≤ n) : nb (u8 n) = n % 256 := by
  unfold u8
  rw [b8_of]
  omega
theorem Bs.two (w : World) (x y : UInt8) (T : TypeId) : Bs (w.alloc (.cells #[.int .u8 (nb x), .int .u8 (nb y)] T)) (some ⟨w.heap.size, 0, none⟩) [x, y] := fun _ => ⟨_, _, rfl, fun i hi => by
  have : i = 0 ∨ i = 1 := by simp at hi; omega
  rcases this with rfl | rfl
  · exact cell_of (heap_alloc_new w _) rfl
  · exact cell_of (heap_alloc_new w _) rfl⟩

set_option maxHeartbeats 8000000 in
theorem body_refuse (cs : Array Value) (m : Msg) (lv tv : Value) (hC : MsgC cs m lv tv) (hk : m.kind = 5) (f0 : 0 ≤ m.from_) (f1 : m.from_ ≤ 255) (t0 : 0 ≤ m.to_) (t1 : m.to_ ≤ 255) (c0 : 1 ≤ m.code) (c1 : m.code ≤ 65535) (w : World) :
    Calls Tryd.prog 52 #[.agg cs] w fun e w' => ∃ A c, e = .returned (.slice A 36 c) ∧ OwnB w' w.heap.size A c (m.session ++ [u8 m.from_, u8 m.to_] ++ two m.code.toNat) ∧ Below w.heap.size w w' := by
  obtain ⟨i0, hi0, hz0, hz1, hz2⟩ := info_parts inf5
  have hX := heap_alloc_new w (.cells cs 36)
  have hB := boxed w (.cells cs 36)
  have hs : (w.alloc (.cells cs 36)).heap.size = w.heap.size + 1 := by simp
  have hl := hC.session.1
  go_enter Tryd.func52, Tryd.ntmps52
  go_upto_region 1 with fail
  generalize w.alloc (.cells cs 36) = w1 at hX hB hs ⊢
  have k0 : w1.cell? ⟨w.heap.size, 0, none⟩ = some (.int .i64 5) := by rw [← hk]; exact cell_of hX hC.kind
  have k33 : w1.cell? ⟨w.heap.size, 33, none⟩ = some (.int .i64 m.from_) := cell_of hX hC.from_
  have k34 : w1.cell? ⟨w.heap.size, 34, none⟩ = some (.int .i64 m.to_) := cell_of hX hC.to_
  have k230 : w1.cell? ⟨w.heap.size, 230, none⟩ = some (.int .i64 m.code) := cell_of hX hC.code
  have hS := Lib.hid (hC.session.bs hX)
  replace hX := Lib.hid hX
  replace hB := Lib.hid hB
  go_wp2_with fail
  refine (need_same _ _ _ _).mono ?_
  rintro e w' ⟨rfl, rfl⟩
  go_wp2_with fail
  refine (need_same _ _ _ _).mono ?_
  rintro e w1 ⟨rfl, rfl⟩
  go_wp2_with fail
  refine (need_same _ _ _ _).mono ?_
  rintro e w1 ⟨rfl, rfl⟩
  go_wp2_with (at_builtin; go_must (refine wpList_append_bs _ rfl _ _ 22 rfl (w.heap.size + 1) i0 Tryd.underlying22 hi0 hz0 hz1 hz2 none 0 0 [] rfl rfl (OwnB.nil _ _) (some ⟨w.heap.size, 1, none⟩) 32 32 m.session hl rfl hS.out ?q1 ?q2 ?_))
  case q1 => simp; omega
  case q2 => omega
  intro A2 c2 w2 hO2 hg2 hat2
  have hB2 : Below (w.heap.size + 1) w1 w2 := below_grew (Below.refl _ _) (OwnB.nil w1 (w.heap.size + 1)) (Nat.le_refl _) (by omega) hg2
  have k33 : w2.cell? ⟨w.heap.size, 33, none⟩ = some (.int .i64 m.from_) := (hB2.cell (p := ⟨w.heap.size, 33, none⟩) (Nat.lt_succ_self _)).trans k33
  have k34 : w2.cell? ⟨w.heap.size, 34, none⟩ = some (.int .i64 m.to_) := (hB2.cell (p := ⟨w.heap.size, 34, none⟩) (Nat.lt_succ_self _)).trans k34
  have k0 : w2.cell? ⟨w.heap.size, 0, none⟩ = some (.int .i64 5) := (hB2.cell (p := ⟨w.heap.size, 0, none⟩) (Nat.lt_succ_self _)).trans k0
  have k230 : w2.cell? ⟨w.heap.size, 230, none⟩ = some (.int .i64 m.code) := (hB2.cell (p := ⟨w.heap.size, 230, none⟩) (Nat.lt_succ_self _)).trans k230
  have hs2 := hB2.size
  have e1 := nb_u8 f0
  have e2 := nb_u8 t0
  have e3 : m.from_ % 256 = m.from_ := by omega
  have e4 : m.to_ % 256 = m.to_ := by omega
  rw [e3] at e1
  rw [e4] at e2
  have hb2 := Bs.two w2 (u8 m.from_) (u8 m.to_) 5
  rw [e1, e2] at hb2
  replace hb2 := Lib.hid hb2
  replace hO2 := Lib.hid hO2
  replace hB2 := Lib.hid hB2
  replace e1 := Lib.hid e1
  replace e2 := Lib.hid e2
  clear hg2 hat2
  go_wp2_with (at_builtin; go_must (refine wpList_append_bs _ rfl _ _ 22 rfl (w.heap.size + 1) i0 Tryd.underlying22 hi0 hz0 hz1 hz2 A2 32 c2 m.session hl rfl (hO2.out.on (boxed _ _)) (some ⟨w2.heap.size, 0, none⟩) 2 2 [u8 m.from_, u8 m.to_] rfl rfl hb2.out ?q3 ?q4 ?_))
  case q3 => simp; omega
  case q4 => simp; omega
  intro A3 c3 w3 hO3 hg3 hat3
  have hB3 : Below (w.heap.size + 1) w2 w3 := below_grew (boxed _ _ |> fun h => h.mono (by omega)) (hO2.out.on (boxed _ _)) (Nat.le_refl _) (by simp; omega) hg3
  have k0 : w3.cell? ⟨w.heap.size, 0, none⟩ = some (.int .i64 5) := (hB3.cell (p := ⟨w.heap.size, 0, none⟩) (Nat.lt_succ_self _)).trans k0
  have k230 : w3.cell? ⟨w.heap.size, 230, none⟩ = some (.int .i64 m.code) := (hB3.cell (p := ⟨w.heap.size, 230, none⟩) (Nat.lt_succ_self _)).trans k230
  have hs3 := hB3.size
  replace hO3 := Lib.hid hO3
  replace hB3 := Lib.hid hB3
  clear hg3 hat3 hb2
  go_wp2_with fail
  refine (need_same _ _ _ _).mono ?_
  rintro e w3 ⟨rfl, rfl⟩
  obtain ⟨n, hn⟩ := Int.eq_ofNat_of_zero_le (show 0 ≤ m.code by omega)
  rw [hn] at k230 c0 c1
  go_wp2_with fail
  refine (highest2 n (by omega) _).mono ?_
  rintro e w4 ⟨rfl, hO4, hB4⟩
  have hb4 := Lib.hid hO4.bs
  have hO5 := Lib.hid (hO3.out.on hB4)
  have hs4 := hB4.size
  replace hB4 := Lib.hid hB4
  replace hO4 := Lib.hid hO4
  go_wp2_with (at_builtin; go_must (refine wpList_append_bs _ rfl _ _ 22 rfl (w.heap.size + 1) i0 Tryd.underlying22 hi0 hz0 hz1 hz2 A3 34 c3 (m.session ++ [u8 m.from_, u8 m.to_]) (by simp [hl]) rfl hO5.out _ 2 2 (two n) rfl rfl hb4.out ?q5 ?q6 ?_))
  case q5 => simp [two]; omega
  case q6 => omega
  intro A6 c6 w6 hO6 hg6 hat6
  have hB6 : Below (w.heap.size + 1) w3 w6 := below_grew (hB4.out.mono (by omega)) hO5.out (Nat.le_refl _) (by omega) hg6
  replace hO6 := Lib.hid hO6
  replace hB6 := Lib.hid hB6
  clear hg6 hat6
  go_wp2_with fail
  go_ret
  refine ⟨A6, c6, rfl, ?_, ?_⟩
  · have h := OwnB.lower (B := w.heap.size) hO6.out (Nat.le_succ _)
    rw [hn, Int.toNat_natCast, List.append_assoc]
    exact h
  · have h1 : Below w.heap.size w1 w6 := (hB2.out.trans (hB3.out.trans hB6.out)).mono (by omega)
    exact hB.out.trans h1
end Go.Proofs.YtmnmmabhmedioaaDoor
