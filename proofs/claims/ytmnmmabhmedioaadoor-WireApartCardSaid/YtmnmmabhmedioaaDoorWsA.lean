/- Wire: a message with its list and its text in memory; out of the data that a caller hands in. -/
import Derived.Test.YtmnmmabhmedioaaDoorWrM
import Derived.Deep.Slices
import Derived.Deep.Fields
import Derived.ChangeSame
import Derived.SizedLaws
import Derived.ChangeArms
import Derived.OpenShut
namespace Go.Proofs.YtmnmmabhmedioaaDoor
open Go.RowKit Go.ChangeShapes Go.WideShapes Go.Deep
set_option linter.unusedVariables false
set_option linter.unusedSimpArgs false

def Pair.zero : Pair := ⟨0, zeros 32, zeros 32⟩
def PairOk (p : Pair) : Prop := p.hid.length = 32 ∧ p.bnd.length = 32
theorem pair0_ok : PairOk Pair.zero := ⟨by simp [Pair.zero, zeros], by simp [Pair.zero, zeros]⟩
/-- Commitments behind a slice's head. -/
def PairsIn (w : World) (A : Option Addr) (ps : List Pair) : Prop := 0 < ps.length → ∃ b o, A = some ⟨b, o, none⟩ ∧ ∀ i, i < ps.length → RowAt w b (o + i * 65) (pairA (ps.getD i Pair.zero))
theorem RowAt.on {w w' : World} {b o : Nat} {A : Array Value} (hb : Below w.heap.size w w') (h : RowAt w b o A) : RowAt w' b o A := fun j v hv => cell_on hb (h j v hv)
theorem PairsIn.on {w w' : World} {A : Option Addr} {ps : List Pair} (hb : Below w.heap.size w w') (h : PairsIn w A ps) : PairsIn w' A ps := fun h0 => by
  obtain ⟨b, o, rfl, hc⟩ := h h0
  exact ⟨b, o, rfl, fun i hi => (hc i hi).on hb⟩
theorem PairsIn.nil (w : World) (A : Option Addr) : PairsIn w A [] := fun h => absurd h (by simp)
theorem pairA_size {p : Pair} (h : PairOk p) : (pairA p).size = 65 := by simp [pairA, arrB, h.1, h.2]

/-- A message with its list and its text. -/
structure MsgIn (w : World) (cs : Array Value) (m : Msg) (LA : Option Addr) (lc : Nat) (TA : Option Addr) (tc : Nat) : Prop where
  cells : MsgC cs m (.slice LA m.list.length lc) (.slice TA m.text.length tc)
  llc : m.list.length ≤ lc
  ltc : m.text.length ≤ tc
  list : PairsIn w LA m.list
  text : Bs w TA m.text
  pok : ∀ i, PairOk (m.list.getD i Pair.zero)
  lsz : m.list.length ≤ 2199023255552
  tsz : m.text.length ≤ 140737488351232
theorem MsgIn.on {w w' : World} {cs : Array Value} {m : Msg} {LA : Option Addr} {lc : Nat} {TA : Option Addr} {tc : Nat} (hb : Below w.heap.size w w') (h : MsgIn w cs m LA lc TA tc) : MsgIn w' cs m LA lc TA tc :=
  ⟨h.cells, h.llc, h.ltc, h.list.on hb, h.text.on hb, h.pok, h.lsz, h.tsz⟩

section
variable {H : Type} {enc : TypeId × Value → H} {P : Program} {w : World} {base : Nat} {spare : Nat → Bool} {held : Bool}
theorem weightsAll_mem {e : TypeId} {n : Nat} : ∀ {l : List (DataW H)} {d : DataW H}, d ∈ l → n ∈ d.weights P e → n ∈ DataW.weightsAll P e l
  | x :: l, d, hd, hn => by
    rw [DataW.weightsAll, List.mem_append]
    rcases List.mem_cons.1 hd with rfl | hd
    · exact .inl hn
    · exact .inr (weightsAll_mem hd hn)
theorem byte_of_wf {z : Int} (h : (Lit.int .u8 z).wf = true) : Value.int .u8 z = B8 (UInt8.ofNat z.toNat) := by
  have hbd : 0 ≤ z ∧ z < 256 := by
    have e1 : IntKind.u8.min = 0 := rfl
    have e2 : IntKind.u8.max = 255 := rfl
    simp [Lit.wf, e1, e2] at h
    omega
  have hnb : nb (UInt8.ofNat z.toNat) = z := by unfold nb; rw [UInt8.toNat_ofNat']; omega
  show _ = Value.int .u8 (nb _)
  rw [hnb]
/-- Bytes that were handed in. -/
theorem bytes_of {fuel : Nat} {t e : TypeId} {v : Value} {y : DataW H × List MemPlace} (ht : P.underlying t = some (.slice e)) (he : P.underlying e = some (.int .u8)) (hc : P.cellsOf e = 1) (hb : P.bytesOf e = 1)
    (h : DataW.trod enc P w base (fun _ => true) held fuel t [v] = some y) (hsz : ∀ n ∈ y.1.weights P t, n ≤ reachBytes) :
    ∃ A c l, v = .slice A l.length c ∧ l.length ≤ c ∧ Bs w A l ∧ l.length ≤ reachBytes := by
  rcases open_ints ht he hc h with ⟨hcs, hx⟩ | ⟨a, len, cap, zs, hcs, _, hl, hm, hz, hx, hcell, hwf⟩
  · simp at hcs
    exact ⟨none, 0, [], hcs, by simp, Bs.nil _ _, by simp⟩
  · simp at hcs hz
    have hw : (lits (H := H) .u8 (zs.take len)).length + (lits (H := H) .u8 (zs.drop len)).length = zs.length := by simp [lits]; omega
    have h1 := hsz (zs.length * 1) (by rw [hx]; simp only [DataW.weights, ht, hb, hw]; exact List.mem_cons_self)
    have hlen : ((zs.take len).map fun z => UInt8.ofNat z.toNat).length = len := by simp; omega
    refine ⟨some a, cap, (zs.take len).map fun z => UInt8.ofNat z.toNat, by rw [hlen]; exact hcs, by rw [hlen]; exact hl, fun h0 => ?_, by rw [hlen]; omega⟩
    rw [hlen] at h0
    obtain ⟨b, off, spot⟩ := a
    obtain rfl : spot = none := by simpa [Addr.add] using World.cell?_spot (hcell 0 (by omega))
    refine ⟨b, off, rfl, fun i hi => ?_⟩
    rw [hlen] at hi
    have hc2 := hcell i (by omega)
    rw [add_plain] at hc2
    rw [hc2]
    have hiz : i < zs.length := by omega
    have hz1 : zs.getD i 0 = zs[i] := by rw [List.getD_eq_getElem?_getD, List.getElem?_eq_getElem hiz]; rfl
    have hz2 : ((zs.take len).map fun z => UInt8.ofNat z.toNat).getD i 0 = UInt8.ofNat (zs[i]).toNat := by
      rw [List.getD_eq_getElem?_getD, List.getElem?_map, List.getElem?_take, if_pos hi, List.getElem?_eq_getElem hiz]; rfl
    rw [hz1, hz2, byte_of_wf (hwf zs[i] (List.getElem_mem hiz))]
/-- An array of bytes that was handed in. -/
theorem row_of {fuel n : Nat} {t e : TypeId} {cs : List Value} {x : DataW H × List MemPlace} (ht : P.underlying t = some (.array n e)) (he : P.underlying e = some (.int .u8)) (hc : P.cellsOf e = 1) (hT : P.cellsOf t = n)
    (h : DataW.trod enc P w base spare held fuel t cs = some x) : ∃ l : List UInt8, l.length = n ∧ cs = l.map B8 := by
  obtain ⟨xs, m, _, _, hlen, hxl, hel⟩ := DataW.trod_array ht h
  rw [hT] at hlen
  rw [hc] at hel
  have one : ∀ i (hi : i < n), ∃ b : UInt8, cs[i]? = some (B8 b) := fun i hi => by
    have h1 := hel i hi
    rw [Nat.mul_one, List.drop_eq_getElem_cons (by omega)] at h1
    have h2 : xs[i]? = some (xs[i]'(by omega)) := List.getElem?_eq_getElem (by omega)
    rw [h2] at h1
    obtain ⟨z, hz, _, hwf⟩ := DataW.trod_int he h1
    have hz : cs[i]'(by omega) = .int .u8 z := by
      have : [cs[i]'(by omega)] = [Value.int .u8 z] := hz
      exact List.cons.inj this |>.1
    exact ⟨_, by rw [List.getElem?_eq_getElem (by omega), hz, byte_of_wf hwf]⟩
  refine ⟨(List.range n).map fun i => if h : i < n then Classical.choose (one i h) else 0, by simp, ?_⟩
  apply List.ext_getElem?
  intro i
  rcases Nat.lt_or_ge i n with hi | hi
  · have h1 := Classical.choose_spec (one i hi)
    rw [h1, List.getElem?_map, List.getElem?_map, List.getElem?_range hi]
    simp [hi]
  · rw [List.getElem?_eq_none (by omega), List.getElem?_eq_none (by simp; omega)]
end
theorem rowC_of {cs : Array Value} {o n : Nat} {l : List UInt8} (hl : l.length = n) (h : (cs.toList.drop o).take n = l.map B8) : RowC cs o n l := by
  refine ⟨hl, fun i hi => ?_⟩
  have h1 := congrArg (fun x => x[i]?) h
  simp only [List.getElem?_take, if_pos hi, List.getElem?_drop, List.getElem?_map, Array.getElem?_toList] at h1
  rw [h1, List.getD_eq_getElem?_getD, List.getElem?_eq_getElem (by omega)]
  rfl
theorem cell_at {cs : Array Value} {o : Nat} {v : Value} (h : (cs.toList.drop o).take 1 = [v]) : cs[o]? = some v := by
  have h1 := congrArg (fun x => x[0]?) h
  simpa [List.getElem?_take, List.getElem?_drop] using h1

section
variable {H : Type} {enc : TypeId × Value → H} {w : World} {base : Nat} {spare : Nat → Bool} {held : Bool}
theorem cellsHash : Tryd.prog.cellsOf 26 = 32 := by kernel_rfl
theorem cellsScalar : Tryd.prog.cellsOf 31 = 32 := by kernel_rfl
theorem cellsElement : Tryd.prog.cellsOf 27 = 32 := by kernel_rfl
theorem cellsSignature : Tryd.prog.cellsOf 33 = 64 := by kernel_rfl
theorem cellsPair : Tryd.prog.cellsOf 29 = 65 := by kernel_rfl
theorem cellsInt : Tryd.prog.cellsOf 3 = 1 := by kernel_rfl
theorem cells5 : Tryd.prog.cellsOf 5 = 1 := by kernel_rfl
theorem bytes5 : Tryd.prog.bytesOf 5 = 1 := by kernel_rfl
theorem bytesPair : Tryd.prog.bytesOf 29 = 72 := by kernel_rfl
/-- A commitment that was handed in. -/
theorem pair_of {fuel : Nat} {cs : List Value} {x : DataW H × List MemPlace} (h : DataW.trod enc Tryd.prog w base spare held fuel 29 cs = some x) : ∃ p : Pair, cs = (pairA p).toList ∧ PairOk p := by
  obtain ⟨xs, m, _, _, hlen, hxl, hel⟩ := DataW.trod_struct Tryd.underlying29 h
  have hxl : xs.length = 3 := hxl
  rw [cellsPair] at hlen
  have h0 := hel 0 _ rfl
  have h1 := hel 1 _ rfl
  have h2 := hel 2 _ rfl
  rw [List.getElem?_eq_getElem (by omega)] at h0 h1 h2
  obtain ⟨z, hz, _, _⟩ := DataW.trod_int Tryd.underlying3 h0
  obtain ⟨l1, e1, g1⟩ := row_of Tryd.underlying27 Tryd.underlying5 cells5 cellsElement h1
  obtain ⟨l2, e2, g2⟩ := row_of Tryd.underlying27 Tryd.underlying5 cells5 cellsElement h2
  replace hz : (cs.drop 0).take (Tryd.prog.cellsOf 3) = [.int .i64 z] := hz
  replace g1 : (cs.drop 1).take (Tryd.prog.cellsOf 27) = l1.map B8 := g1
  replace g2 : (cs.drop 33).take (Tryd.prog.cellsOf 27) = l2.map B8 := g2
  rw [cellsInt] at hz
  rw [cellsElement] at g1 g2
  refine ⟨⟨z, l1, l2⟩, ?_, e1, e2⟩
  have e : cs = (cs.drop 0).take 1 ++ ((cs.drop 1).take 32 ++ (cs.drop 33).take 32) := by
    have k : (cs.drop 33).take 32 = cs.drop 33 := List.take_of_length_le (by simp; omega)
    rw [k, show (33 : Nat) = 1 + 32 from rfl, ← List.drop_drop, List.take_append_drop]
    exact (List.take_append_drop 1 cs).symm
  rw [e, hz, g1, g2]
  simp [pairA, arrB]
theorem cellsSl : Tryd.prog.cellsOf 30 = 1 := by kernel_rfl
theorem cellsSb : Tryd.prog.cellsOf 22 = 1 := by kernel_rfl
/-- Commitments that were handed in. -/
theorem pairs_of {fuel : Nat} {v : Value} {y : DataW H × List MemPlace} (h : DataW.trod enc Tryd.prog w base (fun _ => true) held fuel 30 [v] = some y) (hsz : ∀ n ∈ y.1.weights Tryd.prog 30, n ≤ reachBytes) :
    ∃ A c ps, v = .slice A ps.length c ∧ ps.length ≤ c ∧ PairsIn w A ps ∧ (∀ i, PairOk (ps.getD i Pair.zero)) ∧ ps.length ≤ 2199023255552 := by
  have hr : reachBytes = 140737488351232 := rfl
  rcases open_slice Tryd.underlying30 h with ⟨hcs, _⟩ | ⟨a, len, cap, m, n, D, Pl, hcs, _, hl, hm, hmm, hx, hi⟩
  · simp at hcs
    exact ⟨none, 0, [], hcs, by simp, PairsIn.nil _ _, fun i => by simp; exact pair0_ok, by simp⟩
  · simp at hcs
    simp at hmm
    subst hmm
    have hw : len * 72 ≤ reachBytes := by
      have := hsz ((((List.range len).map D).length + ((List.range (m - len)).map fun j => D (len + j)).length) * 72) (by
        rw [hx]; simp only [DataW.weights, Tryd.underlying30, bytesPair]; exact List.mem_cons_self)
      simp at this
      omega
    rcases Nat.eq_zero_or_pos len with h0 | h0
    · subst h0
      exact ⟨some a, m, [], hcs, by simp, PairsIn.nil _ _, fun i => by simp; exact pair0_ok, by simp⟩
    rw [cellsPair] at hi
    have one : ∀ i, i < len → ∃ p : Pair, PairOk p ∧ ∀ j v, (pairA p)[j]? = some v → w.cell? (a.add (i * 65 + j)) = some v := fun i hin => by
      obtain ⟨cs', hc, ht'⟩ := hi i (by omega)
      obtain ⟨p, rfl, hp⟩ := pair_of ht'
      obtain ⟨_, hcl, hat⟩ := World.cells?_some hc
      refine ⟨p, hp, fun j v hv => ?_⟩
      have hj : j < 65 := by
        rcases Nat.lt_or_ge j 65 with h' | h'
        · exact h'
        · rw [Array.getElem?_eq_none (by rw [pairA_size hp]; exact h')] at hv; cases hv
      rw [← Go.Deep.add_add, hat j hj, ← hv, Array.getElem?_toList]
    obtain ⟨b, off, spot⟩ := a
    have hspot : spot = none := by
      obtain ⟨p, hp, hg⟩ := one 0 h0
      have h65 := pairA_size hp
      have := hg 0 _ (Array.getElem?_eq_getElem (by omega))
      simpa [Addr.add] using World.cell?_spot this
    subst hspot
    let f : Nat → Pair := fun i => if h : i < len then Classical.choose (one i h) else Pair.zero
    have hfl : ((List.range len).map f).length = len := by simp
    have hget : ∀ i, i < len → ((List.range len).map f).getD i Pair.zero = f i := fun i h => by
      rw [List.getD_eq_getElem?_getD, List.getElem?_map, List.getElem?_range h]; rfl
    refine ⟨some ⟨b, off, none⟩, m, (List.range len).map f, by rw [hfl]; exact hcs, by rw [hfl]; exact hl, fun _ => ⟨b, off, rfl, fun i h => ?_⟩, fun i => ?_, by rw [hfl]; omega⟩
    · rw [hfl] at h
      rw [hget i h]
      have h2 := (Classical.choose_spec (one i h)).2
      intro j v hv
      have h3 := h2 j v (by simpa [f, h] using hv)
      rw [add_plain, ← Nat.add_assoc] at h3
      exact h3
    · by_cases h : i < len
      · rw [hget i h]
        have := (Classical.choose_spec (one i h)).1
        simpa [f, h] using this
      · rw [List.getD_eq_getElem?_getD, List.getElem?_eq_none (by rw [hfl]; omega)]
        exact pair0_ok
set_option maxRecDepth 100000 in
/-- A message that was handed in. -/
theorem msg_of {v : Value} {d : DataW H} {p : List MemPlace} {r : Reach} {base' : Nat} (hv : Value.okWide Tryd.prog w r base' 36 v)
    (h : DataW.Trod enc Tryd.prog w base (fun _ => true) held 36 v d p) (hsz : ∀ n ∈ d.weights Tryd.prog 36, n ≤ reachBytes) :
    ∃ cs m LA lc TA tc, v = .agg cs ∧ MsgIn w cs m LA lc TA tc := by
  have hr : reachBytes = 140737488351232 := rfl
  obtain ⟨cs, rfl, hcs⟩ := okWide_struct Tryd.underlying36 hv
  have hcs : cs.size = 231 := hcs.trans (by kernel_rfl)
  obtain ⟨fuel, hf⟩ := h
  obtain ⟨xs, k, _, hx, hlen, hxl, hel⟩ := DataW.trod_struct Tryd.underlying36 hf
  have hxl : xs.length = 11 := hxl
  have hd : d = .agg (xs.map (·.1)) := (Prod.mk.inj hx).1
  have h0 := hel 0 _ rfl
  have h1 := hel 1 _ rfl
  have h2 := hel 2 _ rfl
  have h3 := hel 3 _ rfl
  have h4 := hel 4 _ rfl
  have h5 := hel 5 _ rfl
  have h6 := hel 6 _ rfl
  have h7 := hel 7 _ rfl
  have h8 := hel 8 _ rfl
  have h9 := hel 9 _ rfl
  have h10 := hel 10 _ rfl
  rw [List.getElem?_eq_getElem (by omega)] at h0 h1 h2 h3 h4 h7 h8 h9 h10
  have s5 : xs[5]? = some (xs[5]'(by omega)) := List.getElem?_eq_getElem (by omega)
  have s6 : xs[6]? = some (xs[6]'(by omega)) := List.getElem?_eq_getElem (by omega)
  rw [s5] at h5
  rw [s6] at h6
  generalize xs[5]'(by omega) = y5 at h5 s5
  generalize xs[6]'(by omega) = y6 at h6 s6
  simp only [Value.cells] at h0 h1 h2 h3 h4 h5 h6 h7 h8 h9 h10
  obtain ⟨z0, g0, _, _⟩ := DataW.trod_int Tryd.underlying24 h0
  obtain ⟨l1, e1, g1⟩ := row_of Tryd.underlying26 Tryd.underlying5 cells5 cellsHash h1
  obtain ⟨z2, g2, _, _⟩ := DataW.trod_int Tryd.underlying3 h2
  obtain ⟨z3, g3, _, _⟩ := DataW.trod_int Tryd.underlying3 h3
  obtain ⟨p4, g4, o4⟩ := pair_of h4
  obtain ⟨l7, e7, g7⟩ := row_of Tryd.underlying26 Tryd.underlying5 cells5 cellsHash h7
  obtain ⟨l8, e8, g8⟩ := row_of Tryd.underlying31 Tryd.underlying5 cells5 cellsScalar h8
  obtain ⟨l9, e9, g9⟩ := row_of Tryd.underlying33 Tryd.underlying5 cells5 cellsSignature h9
  obtain ⟨z10, g10, _, _⟩ := DataW.trod_int Tryd.underlying34 h10
  replace g0 : (cs.toList.drop 0).take 1 = [.int .i64 z0] := g0
  replace g1 : (cs.toList.drop 1).take (Tryd.prog.cellsOf 26) = l1.map B8 := g1
  replace g2 : (cs.toList.drop 33).take (Tryd.prog.cellsOf 3) = [.int .i64 z2] := g2
  replace g3 : (cs.toList.drop 34).take (Tryd.prog.cellsOf 3) = [.int .i64 z3] := g3
  replace g4 : (cs.toList.drop 35).take (Tryd.prog.cellsOf 29) = (pairA p4).toList := g4
  replace g7 : (cs.toList.drop 102).take (Tryd.prog.cellsOf 26) = l7.map B8 := g7
  replace g8 : (cs.toList.drop 134).take (Tryd.prog.cellsOf 31) = l8.map B8 := g8
  replace g9 : (cs.toList.drop 166).take (Tryd.prog.cellsOf 33) = l9.map B8 := g9
  replace g10 : (cs.toList.drop 230).take 1 = [.int .i64 z10] := g10
  have c100 : (cs.toList.drop 100).take 1 = [cs[100]'(by omega)] := by
    rw [List.drop_eq_getElem_cons (by simp; omega)]
    simp
  have c101 : (cs.toList.drop 101).take 1 = [cs[101]'(by omega)] := by
    rw [List.drop_eq_getElem_cons (by simp; omega)]
    simp
  have hall : ∀ j t (y : DataW H × List MemPlace), ([24, 26, 3, 3, 29, 30, 22, 26, 31, 33, 34] : List TypeId)[j]? = some t → xs[j]? = some y → ∀ q ∈ y.1.weights Tryd.prog t, q ≤ reachBytes := fun j t y hj hy q hq => hsz q (by
    rw [hd]
    simp only [DataW.weights, Tryd.underlying36]
    exact DataW.weights_mem_each (j := j) (t := t) (d := y.1) hj (by rw [List.getElem?_map, hy]; rfl) q hq)
  replace h5 : DataW.trod enc Tryd.prog w base (fun _ => true) held k 30 ((cs.toList.drop 100).take (Tryd.prog.cellsOf 30)) = some y5 := h5
  replace h6 : DataW.trod enc Tryd.prog w base (fun _ => true) held k 22 ((cs.toList.drop 101).take (Tryd.prog.cellsOf 22)) = some y6 := h6
  rw [cellsSl, c100] at h5
  rw [cellsSb, c101] at h6
  obtain ⟨LA, lc, ps, e5, q5, i5, o5, s5'⟩ := pairs_of h5 (hall 5 _ _ rfl s5)
  obtain ⟨TA, tc, tx, e6, q6, i6, s6'⟩ := bytes_of Tryd.underlying22 Tryd.underlying5 cells5 bytes5 h6 (hall 6 _ _ rfl s6)
  rw [cellsHash] at g1 g7
  rw [cellsInt] at g2 g3
  rw [cellsPair] at g4
  rw [cellsScalar] at g8
  rw [cellsSignature] at g9
  have gp : ∀ j v, (pairA p4)[j]? = some v → cs[35 + j]? = some v := fun j v hv => by
    have hj : j < 65 := by
      rcases Nat.lt_or_ge j 65 with h' | h'
      · exact h'
      · rw [Array.getElem?_eq_none (by rw [pairA_size o4]; exact h')] at hv; cases hv
    have h1 := congrArg (fun x => x[j]?) g4
    simp only [List.getElem?_take, if_pos hj, List.getElem?_drop, Array.getElem?_toList] at h1
    rw [h1, hv]
  refine ⟨cs, ⟨z0, l1, z2, z3, p4, ps, tx, l7, l8, l9, z10⟩, LA, lc, TA, tc, rfl, ⟨⟨hcs, cell_at g0, rowC_of e1 g1, cell_at g2, cell_at g3, ?_, ⟨o4.1, fun i hi => ?_⟩, ⟨o4.2, fun i hi => ?_⟩, ?_, ?_, rowC_of e7 g7, rowC_of e8 g8, rowC_of e9 g9, cell_at g10⟩, q5, q6, i5, i6, o5, s5', s6'⟩⟩
  · exact gp 0 _ (by unfold pairA; rw [Array.append_assoc, Array.getElem?_append_left (by simp)]; rfl)
  · have h1 := gp (1 + i) (B8 (p4.hid.getD i 0)) (by
      unfold pairA
      rw [Array.append_assoc, Array.getElem?_append_right (by simp), Array.getElem?_append_left (by simp [arrB, o4.1]; omega)]
      simp only [List.size_toArray, List.length_cons, List.length_nil]
      rw [show 1 + i - (0 + 1) = i from by omega, arrB, List.getElem?_toArray, List.getElem?_map, List.getD_eq_getElem?_getD, List.getElem?_eq_getElem (by rw [o4.1]; exact hi)]
      rfl)
    rw [show 36 + i = 35 + (1 + i) from by omega]
    exact h1
  · have h1 := gp (33 + i) (B8 (p4.bnd.getD i 0)) (by
      unfold pairA
      rw [Array.getElem?_append_right (by simp [arrB, o4.1])]
      simp only [Array.size_append, List.size_toArray, List.length_cons, List.length_nil, arrB, List.length_map, o4.1]
      rw [show 33 + i - (0 + 1 + 32) = i from by omega, List.getElem?_toArray, List.getElem?_map, List.getD_eq_getElem?_getD, List.getElem?_eq_getElem (by rw [o4.2]; exact hi)]
      rfl)
    rw [show 68 + i = 35 + (33 + i) from by omega]
    exact h1
  · rw [← e5]; exact Array.getElem?_eq_getElem (by omega)
  · rw [← e6]; exact Array.getElem?_eq_getElem (by omega)
end
end Go.Proofs.YtmnmmabhmedioaaDoor
