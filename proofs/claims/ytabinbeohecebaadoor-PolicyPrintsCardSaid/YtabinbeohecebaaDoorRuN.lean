/- Rules out of the data that a caller hands in. (The block 'open_slice_fields' is the guide's extra-structs, section 1, copied as that page asks.) -/
import Derived.Test.YtabinbeohecebaaDoorRuJ
import Derived.Deep.Slices
import Derived.Deep.Fields
import Derived.ChangeSame
import Derived.SizedLaws
import Derived.ChangeArms
namespace Go.Proofs.YtabinbeohecebaaDoor
open Go.RowKit Go.ChangeShapes Go.WideShapes Go.Deep
set_option linter.unusedVariables false
set_option linter.unusedSimpArgs false

section
variable {H : Type} {enc : TypeId × Value → H} {P : Program} {w : World} {base : Nat} {spare : Nat → Bool} {held : Bool}
theorem open_slice_fields {t e : TypeId} {fs : Array Field} {fuel : Nat} {cs : List Value} {x : DataW H × List MemPlace} (ht : P.underlying t = some (.slice e)) (he : P.underlying e = some (.struct fs))
    (hone : oneCellFields P fs = true) (hC : P.cellsOf e = fs.size) (h : DataW.trod enc P w base spare held fuel t cs = some x) :
    (cs = [.slice none 0 0] ∧ x = (.nil, [])) ∨
    ∃ (a : Addr) (len cap m : Nat) (D : Nat → DataW H) (Pl : Nat → List MemPlace), cs = [.slice (some a) len cap] ∧ base ≤ a.block ∧ len ≤ cap ∧ cap ≤ maxLen ∧ m = (if spare a.block then cap else len) ∧
      x = (.slice ((List.range len).map D) ((List.range (m - len)).map fun j => D (len + j)), MemPlace.row a (m * fs.size) ++ (List.range m).flatMap Pl) ∧
      ∀ i, i < m → ∃ (ys : List (DataW H × List MemPlace)) (n : Nat), D i = .agg (ys.map (·.1)) ∧ Pl i = ys.flatMap (·.2) ∧ ys.length = fs.size ∧
        ∀ (j : Nat) (f : Field), fs[j]? = some f → ∃ (v : Value) (y : DataW H × List MemPlace), w.cell? (a.add (i * fs.size + j)) = some v ∧ ys[j]? = some y ∧ DataW.trod enc P w base spare held n f.type [v] = some y := by
  rcases open_slice ht h with h0 | ⟨a, len, cap, m, n, D, Pl, hcs, hb, hl, hm, hmm, hx, hi⟩
  · exact .inl h0
  · refine .inr ⟨a, len, cap, m, D, Pl, hcs, hb, hl, hm, hmm, by rw [hC] at hx; exact hx, fun i him => ?_⟩
    obtain ⟨cs', hc, ht'⟩ := hi i him
    rw [hC] at hc
    obtain ⟨ys, n', hn', hy, hlen, hyl, hf⟩ := DataW.trod_struct he ht'
    obtain ⟨_, hcl, hat⟩ := World.cells?_some hc
    simp only [Prod.mk.injEq] at hy
    refine ⟨ys, n', hy.1, hy.2, hyl, fun j f hj => ?_⟩
    obtain ⟨ho, hk⟩ := hone_of hone j f hj
    have hjl : j < fs.size := (Array.getElem?_eq_some_iff.1 hj).1
    have hcell := hat j hjl
    have hv : cs'[j]? = some (cs'[j]'(by omega)) := List.getElem?_eq_getElem (by omega)
    have h1 := hf j f hj
    rw [ho, hk] at h1
    have hone' : (cs'.drop j).take 1 = [cs'[j]'(by omega)] := by
      rw [List.drop_eq_getElem_cons (by omega)]
      rfl
    rw [hone'] at h1
    have hys : ys[j]? = some (ys[j]'(by omega)) := List.getElem?_eq_getElem (by omega)
    refine ⟨_, _, ?_, hys, h1.trans hys⟩
    rw [← Go.Deep.add_add, hcell, hv]

theorem weightsAll_mem {e : TypeId} {n : Nat} : ∀ {l : List (DataW H)} {d : DataW H}, d ∈ l → n ∈ d.weights P e → n ∈ DataW.weightsAll P e l
  | x :: l, d, hd, hn => by
    rw [DataW.weightsAll, List.mem_append]
    rcases List.mem_cons.1 hd with rfl | hd
    · exact .inl hn
    · exact .inr (weightsAll_mem hd hn)

/-- A prefix that was handed in. -/
theorem bytes_of {fuel : Nat} {t e : TypeId} {v : Value} {y : DataW H × List MemPlace} (ht : P.underlying t = some (.slice e)) (he : P.underlying e = some (.int .u8)) (hc : P.cellsOf e = 1) (hb : P.bytesOf e = 1)
    (h : DataW.trod enc P w base (fun _ => true) held fuel t [v] = some y) (hsz : ∀ n ∈ y.1.weights P t, n ≤ reachBytes) :
    ∃ A c l, v = .slice A l.length c ∧ l.length ≤ c ∧ Bs w A l ∧ l.length ≤ reachBytes := by
  rcases open_ints ht he hc h with ⟨hcs, hx⟩ | ⟨a, len, cap, zs, hcs, _, hl, hm, hz, hx, hcell, hwf⟩
  · simp at hcs
    exact ⟨none, 0, [], hcs, by simp, Bs.nil _ _, by simp⟩
  · simp at hcs hz
    have hw : (lits (H := H) .u8 (zs.take len)).length + (lits (H := H) .u8 (zs.drop len)).length = zs.length := by simp [lits]; omega
    have h1 := hsz (zs.length * 1) (by rw [hx]; simp only [DataW.weights, ht, hb, hw]; exact List.mem_cons_self)
    have hlen : ((zs.take len).map fun z => UInt8.ofNat z.toNat).length = len := by simp; omega
    refine ⟨some a, cap, (zs.take len).map fun z => UInt8.ofNat z.toNat, by rw [hlen]; exact hcs, by rw [hlen]; exact hl, fun h0 => ?_, by rw [hlen]; omega⟩
    rw [hlen] at h0
    obtain ⟨b, off, spot⟩ := a
    obtain rfl : spot = none := by simpa [Addr.add] using World.cell?_spot (hcell 0 (by omega))
    refine ⟨b, off, rfl, fun i hi => ?_⟩
    rw [hlen] at hi
    have hc2 := hcell i (by omega)
    rw [add_plain] at hc2
    rw [hc2]
    have hiz : i < zs.length := by omega
    have hz1 : zs.getD i 0 = zs[i] := by rw [List.getD_eq_getElem?_getD, List.getElem?_eq_getElem hiz]; rfl
    have hz2 : ((zs.take len).map fun z => UInt8.ofNat z.toNat).getD i 0 = UInt8.ofNat (zs[i]).toNat := by
      rw [List.getD_eq_getElem?_getD, List.getElem?_map, List.getElem?_take, if_pos hi, List.getElem?_eq_getElem hiz]; rfl
    have hw2 := hwf zs[i] (List.getElem_mem hiz)
    have hbd : 0 ≤ zs[i] ∧ zs[i] < 256 := by
      have e1 : IntKind.u8.min = 0 := rfl
      have e2 : IntKind.u8.max = 255 := rfl
      simp [Lit.wf, e1, e2] at hw2
      omega
    have hnb : nb (UInt8.ofNat (zs[i]).toNat) = zs[i] := by unfold nb; rw [UInt8.toNat_ofNat']; omega
    rw [hz1, hz2]
    show some (Value.int .u8 zs[i]) = some (Value.int .u8 (nb _))
    rw [hnb]
end

theorem ruCells5 : Tryd.prog.cellsOf 5 = 1 := by kernel_rfl
theorem ruBytes5 : Tryd.prog.bytesOf 5 = 1 := by kernel_rfl
theorem ruCells : Tryd.prog.cellsOf 35 = 6 := by kernel_rfl
theorem ruBytes : Tryd.prog.bytesOf 35 = 64 := by kernel_rfl

/-- The rules that were handed in. -/
theorem rules_of {H : Type} {enc : TypeId × Value → H} {w : World} {base : Nat} {held : Bool} {v : Value} {d : DataW H} {p : List MemPlace} {A : Option Addr} {n c : Nat} (hv : v = .slice A n c)
    (h : DataW.Trod enc Tryd.prog w base (fun _ => true) held 22 v d p) (hsz : (DataW.weightsEach Tryd.prog [22] [d]).all (· ≤ reachBytes) = true) :
    ∃ rs : List RD, v = .slice A rs.length c ∧ RulesIn w A rs ∧ rs.length * 64 ≤ 140737488355328 ∧ ∀ i, (rs.getD i RD.zero).pf.length ≤ 140737488351232 := by
  subst hv
  have hr : reachBytes = 140737488351232 := rfl
  have hall : ∀ m ∈ d.weights Tryd.prog 22, m ≤ reachBytes := fun m hm => by
    have := List.all_eq_true.1 hsz m (by simp only [DataW.weightsEach, List.append_nil]; exact hm)
    simpa using this
  obtain ⟨fuel, hf⟩ := h
  rcases open_slice_fields Tryd.underlying22 Tryd.underlying35 (by kernel_rfl) (by kernel_rfl) hf with ⟨hcs, _⟩ | ⟨a, len, cap, m, D, Pl, hcs, _, hl, hm, hmm, hx, hi⟩
  · simp [Value.cells] at hcs
    obtain ⟨rfl, rfl, rfl⟩ := hcs
    exact ⟨[], rfl, fun h => absurd h (by simp), by simp, fun i => by simp [RD.zero]⟩
  · simp [Value.cells] at hcs
    obtain ⟨rfl, rfl, rfl⟩ := hcs
    simp at hmm
    subst hmm
    obtain ⟨hx1, hx2⟩ := Prod.mk.inj hx
    have hw : n * 64 ≤ reachBytes := by
      have := hall ((((List.range n).map D).length + ((List.range (m - n)).map fun j => D (n + j)).length) * 64) (by
        rw [hx1]; simp only [DataW.weights, Tryd.underlying22, ruBytes]; exact List.mem_cons_self)
      simp at this
      omega
    rcases Nat.eq_zero_or_pos n with h0 | h0
    · subst h0
      exact ⟨[], rfl, fun h => absurd h (by simp), by simp, fun i => by simp [RD.zero]⟩
    obtain ⟨b, off, spot⟩ := a
    have hspot : spot = none := by
      obtain ⟨ys, k, _, _, _, hg⟩ := hi 0 (by omega)
      obtain ⟨v, y, hc, _⟩ := hg 0 _ rfl
      simpa [Addr.add] using World.cell?_spot hc
    subst hspot
    have one : ∀ i, i < n → ∃ r : RD, RuleAt w b (off + i * 6) r ∧ r.pf.length ≤ reachBytes := fun i hin => by
      obtain ⟨ys, k, hD, _, hyl, hg⟩ := hi i (by omega)
      obtain ⟨v0, y0, c0, s0, t0⟩ := hg 0 _ rfl
      obtain ⟨v1, y1, c1, s1, t1⟩ := hg 1 _ rfl
      obtain ⟨v2, y2, c2, s2, t2⟩ := hg 2 _ rfl
      obtain ⟨v3, y3, c3, s3, t3⟩ := hg 3 _ rfl
      obtain ⟨v4, y4, c4, s4, t4⟩ := hg 4 _ rfl
      obtain ⟨v5, y5, c5, s5, t5⟩ := hg 5 _ rfl
      obtain ⟨b0, e0, _⟩ := DataW.trod_bool Tryd.underlying4 t0
      obtain ⟨n2, e2, _⟩ := DataW.trod_int Tryd.underlying3 t2
      obtain ⟨n3, e3, _⟩ := DataW.trod_int Tryd.underlying3 t3
      obtain ⟨n4, e4, _⟩ := DataW.trod_int Tryd.underlying3 t4
      obtain ⟨n5, e5, _⟩ := DataW.trod_int Tryd.underlying3 t5
      have hy1 : ∀ q ∈ y1.1.weights Tryd.prog 33, q ≤ reachBytes := fun q hq => hall q (by
        rw [hx1]
        simp only [DataW.weights, Tryd.underlying22]
        refine List.mem_cons_of_mem _ (List.mem_append.2 (.inl ?_))
        refine weightsAll_mem (d := D i) (List.mem_map.2 ⟨i, by simpa using hin, rfl⟩) ?_
        rw [hD]
        simp only [DataW.weights, Tryd.underlying35]
        exact DataW.weights_mem_each (j := 1) (t := 33) (d := y1.1) rfl (by rw [List.getElem?_map, s1]; rfl) q hq)
      obtain ⟨A1, k1, l1, e1, hk1, hbs, hl1⟩ := bytes_of Tryd.underlying33 Tryd.underlying5 ruCells5 ruBytes5 t1 hy1
      simp only [List.cons.injEq, and_true] at e0 e2 e3 e4 e5
      subst e0 e1 e2 e3 e4 e5
      have at_ : ∀ j u, w.cell? ((⟨b, off, none⟩ : Addr).add (i * 6 + j)) = some u → w.cell? ⟨b, off + i * 6 + j, none⟩ = some u := fun j u h => by
        rw [add_plain, ← Nat.add_assoc] at h; exact h
      exact ⟨⟨b0, l1, n2, n3, n4, n5⟩, ⟨at_ 0 _ c0, ⟨A1, k1, at_ 1 _ c1, hk1, hbs⟩, at_ 2 _ c2, at_ 3 _ c3, at_ 4 _ c4, at_ 5 _ c5⟩, hl1⟩
    let f : Nat → RD := fun i => if h : i < n then Classical.choose (one i h) else RD.zero
    have hfl : ((List.range n).map f).length = n := by simp
    have hget : ∀ i, i < n → ((List.range n).map f).getD i RD.zero = f i := fun i h => by
      rw [List.getD_eq_getElem?_getD, List.getElem?_map, List.getElem?_range h]; rfl
    refine ⟨(List.range n).map f, by rw [hfl], fun _ => ⟨b, off, rfl, fun i h => ?_⟩, by rw [hfl]; omega, fun i => ?_⟩
    · rw [hfl] at h
      rw [hget i h]
      have := (Classical.choose_spec (one i h)).1
      simpa [f, h] using this
    · by_cases h : i < n
      · rw [hget i h]
        have := (Classical.choose_spec (one i h)).2
        simpa [f, h, hr] using this
      · rw [List.getD_eq_getElem?_getD, List.getElem?_eq_none (by rw [hfl]; omega)]
        simp [RD.zero]
end Go.Proofs.YtabinbeohecebaaDoor
