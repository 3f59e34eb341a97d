/-
  DERIVED. GIVEN WITH THE SEED: THE CARDS: each row of YtiolfnnkkflaiaaDoorRows.lean that lists a variable, with what it lists TIED to the program's text (the seventh form; the later family's looks); each row that meets fmt, with fmt's text TOLD by the authors' own Lean function (tested against real Go, not proved from fmt's source: count such statements apart). THE CARD IS WHAT COUNTS. Prove the row's statement (the work); the ties are given (YtiolfnnkkflaiaaDoorTie.lean); close each card by the builder's one call (the guide's Derived/Test/ToyasCard.lean, 'card_holds'). Laid BY PROGRAM, IN A SANDBOX (cutbox-door.mjs). By AI agents, Wed Nov 11 2026. No macro, syntax, notation, axiom, sorry.
-/
import Derived.Test.YtiolfnnkkflaiaaDoorRows
import GoSem.ClaimSeven
namespace Go.Proofs.YtiolfnnkkflaiaaDoor
namespace Rows

/-- THE TIED CARD OF 'pentimentolaw10.BitsTells'. -/
def bitsTellsCard : Claim7 := { stood := { row := bitsTellsRow, standIns := [], harness := (true, "c7d4bb0a4f55282a86fa3d9a955a34f1e9ccf291198cba9af2583c35d1aba405"), looks := false }, kinds := [], alts := [], laidByText := true, laidKinds := [.data], laidTests := true, laidLooks := .later }
def BitsTellsCardSaid : Prop := Claim7.holds Tryd.pinned (.plain (OpenSpec.ofChange bitsTellsSpec)) bitsTellsCard

/-- THE TIED CARD OF 'pentimentolaw10.BitsPairs'. -/
def bitsPairsCard : Claim7 := { stood := { row := bitsPairsRow, standIns := [], harness := (true, "c7d4bb0a4f55282a86fa3d9a955a34f1e9ccf291198cba9af2583c35d1aba405"), looks := false }, kinds := [], alts := [], laidByText := true, laidKinds := [.data], laidTests := true, laidLooks := .later }
def BitsPairsCardSaid : Prop := Claim7.holds Tryd.pinned (.plain (OpenSpec.ofChange bitsPairsSpec)) bitsPairsCard

/-- THE TIED CARD OF 'pentimentolaw10.BitsBytes'. -/
def bitsBytesCard : Claim7 := { stood := { row := bitsBytesRow, standIns := [], harness := (true, "c7d4bb0a4f55282a86fa3d9a955a34f1e9ccf291198cba9af2583c35d1aba405"), looks := false }, kinds := [], alts := [], laidByText := true, laidKinds := [.data], laidTests := true, laidLooks := .later }
def BitsBytesCardSaid : Prop := Claim7.holds Tryd.pinned (.plain (OpenSpec.ofChange bitsBytesSpec)) bitsBytesCard

/-- THE SECOND FORM's CARD OF 'pentimentolaw10.BitsTells'. -/
def bitsTellsUptoCard : Claim7 := { stood := { row := bitsTellsUptoRow, standIns := [], harness := (true, "c7d4bb0a4f55282a86fa3d9a955a34f1e9ccf291198cba9af2583c35d1aba405"), looks := false }, kinds := [], alts := [], laidByText := true, laidKinds := [.data], laidTests := true, laidLooks := .later }
def BitsTellsUptoCardSaid : Prop := Claim7.holds Tryd.pinned (.plain (OpenSpec.upto bitsTellsSpec)) bitsTellsUptoCard

/-- THE SECOND FORM's CARD OF 'pentimentolaw10.BitsPairs'. -/
def bitsPairsUptoCard : Claim7 := { stood := { row := bitsPairsUptoRow, standIns := [], harness := (true, "c7d4bb0a4f55282a86fa3d9a955a34f1e9ccf291198cba9af2583c35d1aba405"), looks := false }, kinds := [], alts := [], laidByText := true, laidKinds := [.data], laidTests := true, laidLooks := .later }
def BitsPairsUptoCardSaid : Prop := Claim7.holds Tryd.pinned (.plain (OpenSpec.upto bitsPairsSpec)) bitsPairsUptoCard

/-- THE SECOND FORM's CARD OF 'pentimentolaw10.BitsBytes'. -/
def bitsBytesUptoCard : Claim7 := { stood := { row := bitsBytesUptoRow, standIns := [], harness := (true, "c7d4bb0a4f55282a86fa3d9a955a34f1e9ccf291198cba9af2583c35d1aba405"), looks := false }, kinds := [], alts := [], laidByText := true, laidKinds := [.data], laidTests := true, laidLooks := .later }
def BitsBytesUptoCardSaid : Prop := Claim7.holds Tryd.pinned (.plain (OpenSpec.upto bitsBytesSpec)) bitsBytesUptoCard
end Rows
end Go.Proofs.YtiolfnnkkflaiaaDoor
