/- Plain law: what is let go in a window, and what the policy remembers of it. -/
import Derived.Test.YtanhncgbpnkdnaaRPolA
namespace Go.Proofs.YtanhncgbpnkdnaaR
set_option linter.unusedVariables false

/-- The modes of Go's % that the law uses. -/
theorem mod_bd (x m : Int) (hm : 0 < m) : 1 ≤ 1 + (x.tmod m + m).tmod m ∧ 1 + (x.tmod m + m).tmod m ≤ m := by
  have h1 := Int.tmod_lt_of_pos x hm
  have h2 := Int.lt_tmod_of_pos x hm
  have h3 : 0 ≤ x.tmod m + m := by omega
  rw [Int.tmod_eq_emod_of_nonneg h3]
  have := Int.emod_nonneg (x.tmod m + m) (by omega : m ≠ 0)
  have := Int.emod_lt_of_pos (x.tmod m + m) hm
  omega
def step4 (x : Int) : Int := (x.tmod 4 + 4).tmod 4
theorem step4_bd (x : Int) : 0 ≤ step4 x ∧ step4 x ≤ 3 := by have := mod_bd x 4 (by omega); unfold step4; omega

structure Inv (rate window now : Int) (gone rec : List Int) : Prop where
  b : ∀ j, j < gone.length → 0 ≤ gone.getD j 0 ∧ gone.getD j 0 ≤ now
  sorted : ∀ i j, i ≤ j → j < gone.length → gone.getD i 0 ≤ gone.getD j 0
  sep : ∀ i : Nat, rate.toNat ≤ i → i < gone.length → window ≤ gone.getD i 0 - gone.getD (i - rate.toNat) 0
  same : ∀ n, now ≤ n → inWin n window rec = inWin n window gone

theorem inv_nil (rate window : Int) : Inv rate window 0 [] [] := ⟨fun j hj => absurd hj (by simp), fun i j _ hj => absurd hj (by simp), fun i _ hi => absurd hi (by simp), fun _ _ => rfl⟩
theorem inv_tick {rate window now n : Int} {gone rec : List Int} (h : Inv rate window now gone rec) (hn : now ≤ n) : Inv rate window n gone rec :=
  ⟨fun j hj => ⟨(h.b j hj).1, Int.le_trans (h.b j hj).2 hn⟩, h.sorted, h.sep, fun m hm => h.same m (Int.le_trans hn hm)⟩

theorem getD_app_lt {l : List Int} {x : Int} {i : Nat} (h : i < l.length) : (l ++ [x]).getD i 0 = l.getD i 0 := by simp [List.getD_eq_getElem?_getD, List.getElem?_append_left h]
theorem getD_app_eq {l : List Int} {x : Int} : (l ++ [x]).getD l.length 0 = x := by simp [List.getD_eq_getElem?_getD]

/-- The last m of a list that all lie in the window are counted. -/
theorem inWin_last (now window : Int) : ∀ (m : Nat) (l : List Int), m ≤ l.length → (∀ i, l.length - m ≤ i → i < l.length → now - l.getD i 0 < window) → m ≤ (inWin now window l).length := by
  intro m
  induction m with
  | zero => intro l _ _; exact Nat.zero_le _
  | succ m ih =>
    intro l hm h
    rcases List.eq_nil_or_concat l with rfl | ⟨l', x, rfl⟩
    · simp at hm
    · rw [List.concat_eq_append] at *
      have hx := h l'.length (by simp) (by simp)
      rw [getD_app_eq] at hx
      have := ih l' (by simp at hm; omega) (fun i hi hl => by
        have := h i (by simp; omega) (by simp; omega)
        rwa [getD_app_lt hl] at this)
      unfold inWin at this ⊢
      rw [List.filter_append]
      simp [hx]
      exact this

theorem inWin_twice {now n window : Int} (h : now ≤ n) (l : List Int) : inWin n window (inWin now window l) = inWin n window l := by
  unfold inWin
  rw [List.filter_filter]
  refine List.filter_congr fun x _ => ?_
  by_cases h1 : n - x < window
  · have : now - x < window := by omega
    simp [h1, this]
  · simp [h1]

theorem inv_pass {rate window now : Int} {gone rec : List Int} (h : Inv rate window now gone rec) (h0 : 0 ≤ now) (hr : 0 < rate) (hm : ((inWin now window gone).length : Int) < rate) :
    Inv rate window now (gone ++ [now]) (inWin now window rec ++ [now]) := by
  refine ⟨fun j hj => ?_, fun i j hij hj => ?_, fun i hi hl => ?_, fun n hn => ?_⟩
  · rw [List.length_append] at hj
    by_cases hl : j < gone.length
    · rw [getD_app_lt hl]; exact h.b j hl
    · obtain rfl : j = gone.length := by simp at hj; omega
      rw [getD_app_eq]; exact ⟨h0, Int.le_refl _⟩
  · rw [List.length_append] at hj
    by_cases hl : j < gone.length
    · rw [getD_app_lt hl, getD_app_lt (by omega)]; exact h.sorted i j hij hl
    · obtain rfl : j = gone.length := by simp at hj; omega
      rw [getD_app_eq]
      by_cases hi : i < gone.length
      · rw [getD_app_lt hi]; exact (h.b i hi).2
      · obtain rfl : i = gone.length := by omega
        rw [getD_app_eq]; exact Int.le_refl _
  · rw [List.length_append] at hl
    by_cases hg : i < gone.length
    · rw [getD_app_lt hg, getD_app_lt (by omega)]; exact h.sep i hi hg
    · obtain rfl : i = gone.length := by simp at hl; omega
      rw [getD_app_eq, getD_app_lt (by omega)]
      by_cases hw : window ≤ now - gone.getD (gone.length - rate.toNat) 0
      · exact hw
      · exfalso
        have := inWin_last now window rate.toNat gone hi (fun k hk hkl => by
          have := h.sorted (gone.length - rate.toNat) k hk hkl
          omega)
        omega
  · have hs := h.same n hn
    have h2 : inWin n window (inWin now window rec ++ [now]) = inWin n window (inWin now window rec) ++ inWin n window [now] := List.filter_append ..
    have h3 : inWin n window (gone ++ [now]) = inWin n window gone ++ inWin n window [now] := List.filter_append ..
    rw [h2, h3, inWin_twice hn, hs]

end Go.Proofs.YtanhncgbpnkdnaaR
