/-
  DERIVED. GIVEN WITH THE SEED: THE CARDS: each row of YtmnmmabhmedioaaDoorRows.lean that lists a variable, with what it lists TIED to the program's text (the seventh form; the later family's looks); each row that meets fmt, with fmt's text TOLD by the authors' own Lean function (tested against real Go, not proved from fmt's source: count such statements apart). THE CARD IS WHAT COUNTS. Prove the row's statement (the work); the ties are given (YtmnmmabhmedioaaDoorTie.lean); close each card by the builder's one call (the guide's Derived/Test/ToyasCard.lean, 'card_holds'). Laid BY PROGRAM, IN A SANDBOX (cutbox-door.mjs). By AI agents, Wed Nov 11 2026. No macro, syntax, notation, axiom, sorry.
-/
import Derived.Test.YtmnmmabhmedioaaDoorRows
import GoSem.ClaimSeven
namespace Go.Proofs.YtmnmmabhmedioaaDoor
namespace Rows

/-- THE TIED CARD OF 'rimelaw10.WireBodies'. -/
def wireBodiesCard : Claim7 := { stood := { row := wireBodiesRow, standIns := [], harness := (true, "d3164a64fdb174aa528ca5c919e5766b072b745a2b9faae246e4bbcd5e52fa1f"), looks := true }, kinds := [], alts := [], laidByText := true, laidKinds := [.data, .data, .data], laidTests := true, laidLooks := .later }
def WireBodiesCardSaid : Prop := Claim7.holds Tryd.pinned (.plain (OpenSpec.ofChange wireBodiesSpec)) wireBodiesCard

/-- THE TIED CARD OF 'rimelaw10.WireApart'. -/
def wireApartCard : Claim7 := { stood := { row := wireApartRow, standIns := [], harness := (true, "d3164a64fdb174aa528ca5c919e5766b072b745a2b9faae246e4bbcd5e52fa1f"), looks := true }, kinds := [], alts := [], laidByText := true, laidKinds := [.data, .data, .data], laidTests := true, laidLooks := .later }
def WireApartCardSaid : Prop := Claim7.holds Tryd.pinned (.plain (OpenSpec.ofChange wireApartSpec)) wireApartCard

/-- THE TIED CARD OF 'rimelaw10.WireSpoilt'. -/
def wireSpoiltCard : Claim7 := { stood := { row := wireSpoiltRow, standIns := [], harness := (true, "d3164a64fdb174aa528ca5c919e5766b072b745a2b9faae246e4bbcd5e52fa1f"), looks := true }, kinds := [], alts := [], laidByText := true, laidKinds := [.data, .data, .data], laidTests := true, laidLooks := .later }
def WireSpoiltCardSaid : Prop := Claim7.holds Tryd.pinned (.plain (OpenSpec.ofChange wireSpoiltSpec)) wireSpoiltCard

/-- THE TIED CARD OF 'rimelaw10.WireDecodes'. -/
def wireDecodesCard : Claim7 := { stood := { row := wireDecodesRow, standIns := [], harness := (true, "d3164a64fdb174aa528ca5c919e5766b072b745a2b9faae246e4bbcd5e52fa1f"), looks := true }, kinds := [], alts := [], laidByText := true, laidKinds := [.data, .data, .data], laidTests := true, laidLooks := .later }
def WireDecodesCardSaid : Prop := Claim7.holds Tryd.pinned (.plain (OpenSpec.ofChange wireDecodesSpec)) wireDecodesCard

/-- THE TIED CARD OF 'rimelaw10.WireNil'. -/
def wireNilCard : Claim7 := { stood := { row := wireNilRow, standIns := [], harness := (true, "d3164a64fdb174aa528ca5c919e5766b072b745a2b9faae246e4bbcd5e52fa1f"), looks := true }, kinds := [], alts := [], laidByText := true, laidKinds := [.data, .data, .data], laidTests := true, laidLooks := .later }
def WireNilCardSaid : Prop := Claim7.holds Tryd.pinned (.plain (OpenSpec.ofChange wireNilSpec)) wireNilCard

/-- THE TIED CARD OF 'rimelaw10.WireCuts'. -/
def wireCutsCard : Claim7 := { stood := { row := wireCutsRow, standIns := [], harness := (true, "d3164a64fdb174aa528ca5c919e5766b072b745a2b9faae246e4bbcd5e52fa1f"), looks := true }, kinds := [], alts := [], laidByText := true, laidKinds := [.data, .data, .data], laidTests := true, laidLooks := .later }
def WireCutsCardSaid : Prop := Claim7.holds Tryd.pinned (.plain (OpenSpec.ofChange wireCutsSpec)) wireCutsCard

/-- THE TIED CARD OF 'rimelaw10.WireBack'. -/
def wireBackCard : Claim7 := { stood := { row := wireBackRow, standIns := [], harness := (true, "d3164a64fdb174aa528ca5c919e5766b072b745a2b9faae246e4bbcd5e52fa1f"), looks := true }, kinds := [], alts := [], laidByText := true, laidKinds := [.data, .data, .data, .handle], laidTests := true, laidLooks := .later }
def WireBackCardSaid : Prop := Claim7.holds Tryd.pinned (.plain (OpenSpec.ofChange wireBackSpec)) wireBackCard

/-- THE SECOND FORM's CARD OF 'rimelaw10.WireBodies'. -/
def wireBodiesUptoCard : Claim7 := { stood := { row := wireBodiesUptoRow, standIns := [], harness := (true, "d3164a64fdb174aa528ca5c919e5766b072b745a2b9faae246e4bbcd5e52fa1f"), looks := true }, kinds := [], alts := [], laidByText := true, laidKinds := [.data, .data, .data], laidTests := true, laidLooks := .later }
def WireBodiesUptoCardSaid : Prop := Claim7.holds Tryd.pinned (.plain (OpenSpec.upto wireBodiesSpec)) wireBodiesUptoCard

/-- THE SECOND FORM's CARD OF 'rimelaw10.WireApart'. -/
def wireApartUptoCard : Claim7 := { stood := { row := wireApartUptoRow, standIns := [], harness := (true, "d3164a64fdb174aa528ca5c919e5766b072b745a2b9faae246e4bbcd5e52fa1f"), looks := true }, kinds := [], alts := [], laidByText := true, laidKinds := [.data, .data, .data], laidTests := true, laidLooks := .later }
def WireApartUptoCardSaid : Prop := Claim7.holds Tryd.pinned (.plain (OpenSpec.upto wireApartSpec)) wireApartUptoCard

/-- THE SECOND FORM's CARD OF 'rimelaw10.WireSpoilt'. -/
def wireSpoiltUptoCard : Claim7 := { stood := { row := wireSpoiltUptoRow, standIns := [], harness := (true, "d3164a64fdb174aa528ca5c919e5766b072b745a2b9faae246e4bbcd5e52fa1f"), looks := true }, kinds := [], alts := [], laidByText := true, laidKinds := [.data, .data, .data], laidTests := true, laidLooks := .later }
def WireSpoiltUptoCardSaid : Prop := Claim7.holds Tryd.pinned (.plain (OpenSpec.upto wireSpoiltSpec)) wireSpoiltUptoCard

/-- THE SECOND FORM's CARD OF 'rimelaw10.WireDecodes'. -/
def wireDecodesUptoCard : Claim7 := { stood := { row := wireDecodesUptoRow, standIns := [], harness := (true, "d3164a64fdb174aa528ca5c919e5766b072b745a2b9faae246e4bbcd5e52fa1f"), looks := true }, kinds := [], alts := [], laidByText := true, laidKinds := [.data, .data, .data], laidTests := true, laidLooks := .later }
def WireDecodesUptoCardSaid : Prop := Claim7.holds Tryd.pinned (.plain (OpenSpec.upto wireDecodesSpec)) wireDecodesUptoCard

/-- THE SECOND FORM's CARD OF 'rimelaw10.WireNil'. -/
def wireNilUptoCard : Claim7 := { stood := { row := wireNilUptoRow, standIns := [], harness := (true, "d3164a64fdb174aa528ca5c919e5766b072b745a2b9faae246e4bbcd5e52fa1f"), looks := true }, kinds := [], alts := [], laidByText := true, laidKinds := [.data, .data, .data], laidTests := true, laidLooks := .later }
def WireNilUptoCardSaid : Prop := Claim7.holds Tryd.pinned (.plain (OpenSpec.upto wireNilSpec)) wireNilUptoCard

/-- THE SECOND FORM's CARD OF 'rimelaw10.WireCuts'. -/
def wireCutsUptoCard : Claim7 := { stood := { row := wireCutsUptoRow, standIns := [], harness := (true, "d3164a64fdb174aa528ca5c919e5766b072b745a2b9faae246e4bbcd5e52fa1f"), looks := true }, kinds := [], alts := [], laidByText := true, laidKinds := [.data, .data, .data], laidTests := true, laidLooks := .later }
def WireCutsUptoCardSaid : Prop := Claim7.holds Tryd.pinned (.plain (OpenSpec.upto wireCutsSpec)) wireCutsUptoCard

/-- THE SECOND FORM's CARD OF 'rimelaw10.WireBack'. -/
def wireBackUptoCard : Claim7 := { stood := { row := wireBackUptoRow, standIns := [], harness := (true, "d3164a64fdb174aa528ca5c919e5766b072b745a2b9faae246e4bbcd5e52fa1f"), looks := true }, kinds := [], alts := [], laidByText := true, laidKinds := [.data, .data, .data, .handle], laidTests := true, laidLooks := .later }
def WireBackUptoCardSaid : Prop := Claim7.holds Tryd.pinned (.plain (OpenSpec.upto wireBackSpec)) wireBackUptoCard
end Rows
end Go.Proofs.YtmnmmabhmedioaaDoor
