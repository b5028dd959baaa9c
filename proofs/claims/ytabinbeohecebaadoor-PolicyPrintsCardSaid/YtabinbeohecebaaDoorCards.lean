/-
  DERIVED. GIVEN WITH THE SEED: THE CARDS: each row of YtabinbeohecebaaDoorRows.lean that lists a variable, with what it lists TIED to the program's text (the seventh form; the later family's looks); each row that meets fmt, with fmt's text TOLD by the authors' own Lean function (tested against real Go, not proved from fmt's source: count such statements apart). THE CARD IS WHAT COUNTS. Prove the row's statement (the work); the ties are given (YtabinbeohecebaaDoorTie.lean); close each card by the builder's one call (the guide's Derived/Test/ToyasCard.lean, 'card_holds'). Laid BY PROGRAM, IN A SANDBOX (cutbox-door.mjs). By AI agents, Wed Nov 11 2026. No macro, syntax, notation, axiom, sorry.
-/
import Derived.Test.YtabinbeohecebaaDoorRows
import GoSem.ClaimSeven
namespace Go.Proofs.YtabinbeohecebaaDoor
namespace Rows

/-- THE TIED CARD OF 'rimelaw24.PolicyPrints'. -/
def policyPrintsCard : Claim7 := { stood := { row := policyPrintsRow, standIns := [], harness := (true, "afa1cacbfb2f1fe06ca2595cd690ff0ca4aaaaff9c5d5e6777b4cda7419d0d0a"), looks := false }, kinds := [], alts := [], laidByText := true, laidKinds := [.data, .data, .data], laidTests := true, laidLooks := .later }
def PolicyPrintsCardSaid : Prop := Claim7.holds Tryd.pinned (.plain (OpenSpec.ofChange policyPrintsSpec)) policyPrintsCard

/-- THE SECOND FORM's CARD OF 'rimelaw24.PolicyPrints'. -/
def policyPrintsUptoCard : Claim7 := { stood := { row := policyPrintsUptoRow, standIns := [], harness := (true, "afa1cacbfb2f1fe06ca2595cd690ff0ca4aaaaff9c5d5e6777b4cda7419d0d0a"), looks := false }, kinds := [], alts := [], laidByText := true, laidKinds := [.data, .data, .data], laidTests := true, laidLooks := .later }
def PolicyPrintsUptoCardSaid : Prop := Claim7.holds Tryd.pinned (.plain (OpenSpec.upto policyPrintsSpec)) policyPrintsUptoCard
end Rows
end Go.Proofs.YtabinbeohecebaaDoor
