/- The law: the walk. -/
import Derived.Test.YtabinbeohecebaaDoorRuJ
import Derived.Test.YtabinbeohecebaaDoorPolJ
namespace Go.Proofs.YtabinbeohecebaaDoor
open Go.RowKit
set_option linter.unusedVariables false
set_option linter.unusedSimpArgs false

set_option maxRecDepth 100000 in
set_option maxHeartbeats 4000000 in
theorem prints_walk (A : Option Addr) (c : Nat) (rs : List RD) (w : World) (hr : RulesIn w A rs) (ht : Tab w.heap.size w) (hl : rs.length * 64 ≤ 140737488355328) (hp : ∀ i, (rs.getD i RD.zero).pf.length ≤ 140737488351232) :
    Calls Tryd.prog 3 #[.slice A rs.length c] w fun e w' => e = .returned (.bool true) ∧ Below w.heap.size w w' := by
  have HR := Lib.hid hr
  have HP := Lib.hid hp
  have HT := Lib.hid ht
  clear hr hp ht
  have hl2 : rs.length ≤ 2199023255552 := by omega
  rcases Classical.em (rulesE rs = 0) with h0 | h0
  · go_enter Tryd.func3, Tryd.ntmps3
    have h0 := Lib.hid h0
    go_wp2_with fail
    refine (twin_any A c rs w HR.out hl HP.out).mono ?_
    rintro e w1 ⟨A1, c1, rfl, hc1, hr1, b1⟩
    have hr1 := Lib.hid hr1
    have b1 := Lib.hid b1
    go_wp2_with fail
    refine (print_good A1 c1 rs _ hr1.out (HT.out.on b1.out) h0.out).mono ?_
    rintro e w2 ⟨rfl, b2⟩
    have b12 := Lib.hid (later b1.out b2)
    have hr2 := Lib.hid (hr1.out.on b2)
    clear b2
    go_wp2_with fail
    refine (refPrint_good A c rs _ (HR.out.on b12.out) h0.out).mono ?_
    rintro e w3 ⟨rfl, b3⟩
    have b13 := Lib.hid (later b12.out b3)
    have hr3 := Lib.hid (hr2.out.on b3)
    clear b3
    go_wp2_with fail
    refine (num_any 0 _).mono ?_
    rintro e w4 ⟨rfl, rfl⟩
    go_wp2_with fail
    refine (sameRules_true A1 A c1 c rs _ hr3.out (HR.out.on b13.out) hl2 (fun i => Nat.le_trans (HP.out i) (by omega))).mono ?_
    rintro e w5 ⟨rfl, b5⟩
    have b15 := Lib.hid (later b13.out b5)
    clear b5
    go_wp2_with fail
    refine (works_any _).mono ?_
    rintro e w6 ⟨rfl, b6⟩
    have b16 := Lib.hid (later b15.out b6)
    clear b6
    go_wp2
    go_ret
    exact ⟨rfl, b16.out⟩
  · go_enter Tryd.func3, Tryd.ntmps3
    have h0 := Lib.hid h0
    go_wp2_with fail
    refine (twin_any A c rs w HR.out hl HP.out).mono ?_
    rintro e w1 ⟨A1, c1, rfl, hc1, hr1, b1⟩
    have hr1 := Lib.hid hr1
    have b1 := Lib.hid b1
    go_wp2_with fail
    refine (print_bad A1 c1 rs _ hr1.out hl2 h0.out).mono ?_
    rintro e w2 ⟨rfl, b2⟩
    have b12 := Lib.hid (later b1.out b2)
    have hr2 := Lib.hid (hr1.out.on b2)
    clear b2
    go_wp2_with fail
    refine (refPrint_bad A c rs _ (HR.out.on b12.out) hl2 h0.out).mono ?_
    rintro e w3 ⟨rfl, b3⟩
    have b13 := Lib.hid (later b12.out b3)
    have hr3 := Lib.hid (hr2.out.on b3)
    clear b3
    go_wp2_with fail
    refine (num_any (rulesE rs) _).mono ?_
    rintro e w4 ⟨rfl, rfl⟩
    go_wp2_with fail
    refine (sameRules_true A1 A c1 c rs _ hr3.out (HR.out.on b13.out) hl2 (fun i => Nat.le_trans (HP.out i) (by omega))).mono ?_
    rintro e w5 ⟨rfl, b5⟩
    have b15 := Lib.hid (later b13.out b5)
    clear b5
    go_wp2_with fail
    refine (works_any _).mono ?_
    rintro e w6 ⟨rfl, b6⟩
    have b16 := Lib.hid (later b15.out b6)
    clear b6
    go_wp2
    go_ret
    exact ⟨rfl, b16.out⟩
end Go.Proofs.YtabinbeohecebaaDoor
