/-
  DERIVED. GIVEN WITH THE SEED: THE CARDS: each row of YtlfclpdcingpnaaDoorRows.lean that lists a variable, with what it lists TIED to the program's text (the seventh form; the later family's looks); each row that meets fmt, with fmt's text TOLD by the authors' own Lean function (tested against real Go, not proved from fmt's source: count such statements apart). THE CARD IS WHAT COUNTS. Prove the row's statement (the work); the ties are given (YtlfclpdcingpnaaDoorTie.lean); close each card by the builder's one call (the guide's Derived/Test/ToyasCard.lean, 'card_holds'). Laid BY PROGRAM, IN A SANDBOX (cutbox-door.mjs). By AI agents, Wed Nov 11 2026. No macro, syntax, notation, axiom, sorry.
-/
import Derived.Test.YtlfclpdcingpnaaDoorRows
import GoSem.ClaimSeven
namespace Go.Proofs.YtlfclpdcingpnaaDoor
namespace Rows

/-- THE TIED CARD OF 'pentimentolaw35.WaveShifts'. -/
def waveShiftsCard : Claim7 := { stood := { row := waveShiftsRow, standIns := [], harness := (true, "89f2c2400784572479236bb655641b4dd134ac7f0e00e5b8b4c35ff0b878c3e1"), looks := false }, kinds := [], alts := [], laidByText := true, laidKinds := [.data], laidTests := true, laidLooks := .later }
def WaveShiftsCardSaid : Prop := Claim7.holds Tryd.pinned (.plain (OpenSpec.ofChange waveShiftsSpec)) waveShiftsCard

/-- THE TIED CARD OF 'pentimentolaw35.WaveMarks'. -/
def waveMarksCard : Claim7 := { stood := { row := waveMarksRow, standIns := [], harness := (true, "89f2c2400784572479236bb655641b4dd134ac7f0e00e5b8b4c35ff0b878c3e1"), looks := false }, kinds := [], alts := [], laidByText := true, laidKinds := [.data], laidTests := true, laidLooks := .later }
def WaveMarksCardSaid : Prop := Claim7.holds Tryd.pinned (.plain (OpenSpec.ofChange waveMarksSpec)) waveMarksCard

/-- THE TIED CARD OF 'pentimentolaw35.WavePower'. -/
def wavePowerCard : Claim7 := { stood := { row := wavePowerRow, standIns := [], harness := (true, "89f2c2400784572479236bb655641b4dd134ac7f0e00e5b8b4c35ff0b878c3e1"), looks := false }, kinds := [], alts := [], laidByText := true, laidKinds := [.data], laidTests := true, laidLooks := .later }
def WavePowerCardSaid : Prop := Claim7.holds Tryd.pinned (.plain (OpenSpec.ofChange wavePowerSpec)) wavePowerCard

/-- THE TIED CARD OF 'pentimentolaw35.WaveBacks'. -/
def waveBacksCard : Claim7 := { stood := { row := waveBacksRow, standIns := [], harness := (true, "89f2c2400784572479236bb655641b4dd134ac7f0e00e5b8b4c35ff0b878c3e1"), looks := false }, kinds := [], alts := [], laidByText := true, laidKinds := [.data], laidTests := true, laidLooks := .later }
def WaveBacksCardSaid : Prop := Claim7.holds Tryd.pinned (.plain (OpenSpec.ofChange waveBacksSpec)) waveBacksCard

/-- THE SECOND FORM's CARD OF 'pentimentolaw35.WaveShifts'. -/
def waveShiftsUptoCard : Claim7 := { stood := { row := waveShiftsUptoRow, standIns := [], harness := (true, "89f2c2400784572479236bb655641b4dd134ac7f0e00e5b8b4c35ff0b878c3e1"), looks := false }, kinds := [], alts := [], laidByText := true, laidKinds := [.data], laidTests := true, laidLooks := .later }
def WaveShiftsUptoCardSaid : Prop := Claim7.holds Tryd.pinned (.plain (OpenSpec.upto waveShiftsSpec)) waveShiftsUptoCard

/-- THE SECOND FORM's CARD OF 'pentimentolaw35.WaveMarks'. -/
def waveMarksUptoCard : Claim7 := { stood := { row := waveMarksUptoRow, standIns := [], harness := (true, "89f2c2400784572479236bb655641b4dd134ac7f0e00e5b8b4c35ff0b878c3e1"), looks := false }, kinds := [], alts := [], laidByText := true, laidKinds := [.data], laidTests := true, laidLooks := .later }
def WaveMarksUptoCardSaid : Prop := Claim7.holds Tryd.pinned (.plain (OpenSpec.upto waveMarksSpec)) waveMarksUptoCard

/-- THE SECOND FORM's CARD OF 'pentimentolaw35.WavePower'. -/
def wavePowerUptoCard : Claim7 := { stood := { row := wavePowerUptoRow, standIns := [], harness := (true, "89f2c2400784572479236bb655641b4dd134ac7f0e00e5b8b4c35ff0b878c3e1"), looks := false }, kinds := [], alts := [], laidByText := true, laidKinds := [.data], laidTests := true, laidLooks := .later }
def WavePowerUptoCardSaid : Prop := Claim7.holds Tryd.pinned (.plain (OpenSpec.upto wavePowerSpec)) wavePowerUptoCard

/-- THE SECOND FORM's CARD OF 'pentimentolaw35.WaveBacks'. -/
def waveBacksUptoCard : Claim7 := { stood := { row := waveBacksUptoRow, standIns := [], harness := (true, "89f2c2400784572479236bb655641b4dd134ac7f0e00e5b8b4c35ff0b878c3e1"), looks := false }, kinds := [], alts := [], laidByText := true, laidKinds := [.data], laidTests := true, laidLooks := .later }
def WaveBacksUptoCardSaid : Prop := Claim7.holds Tryd.pinned (.plain (OpenSpec.upto waveBacksSpec)) waveBacksUptoCard
end Rows
end Go.Proofs.YtlfclpdcingpnaaDoor
