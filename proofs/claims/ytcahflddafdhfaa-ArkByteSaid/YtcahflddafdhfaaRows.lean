/-
  No cell of these rows narrows 'for every input' (looked for: loops, veiled, ifaces, maps, wideKeys, modest, calm, conditions, laid).
  DERIVED. THE GIVEN ROWS OF THIS SEAT. 6 by the template 'for every input the law returns true; each argument reads behind the call as it read before'; 0 by the template 'total and deterministic' (their statements: YtcahflddafdhfaaTotals.lean).
  GIVEN WITH THE SEED: the statements are not yours to turn. If you find one false, say at which input.
  Laid BY PROGRAM, IN A SANDBOX (cutbox-rows.mjs): the forced cells as the released guide's own fill.sh prints them over the translation 0a9a461a81c9e507… (all of the seat's roots in one cut). By AI agents, Wed Nov 11 2026. No macro, syntax, notation, axiom, sorry.
-/
import Derived.Test.YtcahflddafdhfaaChecked
import GoSem.Claim
import GoSem.ClaimJoined
import GoSem.ClaimMapViews
import Derived.JoinedTies
import Derived.KernelRfl
namespace Go.Proofs.Ytcahflddafdhfaa
/- THE CELL 'sum', in the pinned program and in every row, IS THE sha256 OF THE DUMP (.gsa) THAT YtcahflddafdhfaaProg.lean LOADS. Nothing in Lean hashes anything: it is a label: what it is worth is what the hold of that sum in a sandbox is worth. -/
noncomputable def Try.pinned : Pinned := { name := "ytcahflddafdhfaa", sum := "0a9a461a81c9e50770aeffa6774164515398e13893079d531129b1b735bdbea1", checked := Try.checked }
namespace Rows
def none {H : Type} : Left H := { results := [], args := [] }

/-- 'pentimentolaw43.ArkPacks': WHATEVER THE INPUT: true; the input reads as it did. -/
def arkPacksSpec : ChangeSpec := { name := "arkPacks", fn := fun _ => fun
  | [d] => { results := [.lit (.bool true)], args := [d] }
  | _ => none }
def arkPacksRow : OpenClaim := { program := "ytcahflddafdhfaa", sum := "0a9a461a81c9e50770aeffa6774164515398e13893079d531129b1b735bdbea1", func := "pentimento/pentimentolaw43.ArkPacks", spec := "arkPacks", unfollowed := true, recurses := true, apart := false }
def ArkPacksSaid : Prop := arkPacksRow.holds Try.pinned (OpenSpec.ofChange arkPacksSpec)

/-- ITS FALSE NEIGHBOUR: 'it returns false'. Refute it at one input. -/
def arkPacksWrong : ChangeSpec := { name := "arkPacks", fn := fun _ => fun
  | [d] => { results := [.lit (.bool false)], args := [d] }
  | _ => none }
def ArkPacksWrongFalsely : Prop := arkPacksRow.holds Try.pinned (OpenSpec.ofChange arkPacksWrong)

/-- 'pentimentolaw43.ArkUnpacks': WHATEVER THE INPUT: true; the input reads as it did. -/
def arkUnpacksSpec : ChangeSpec := { name := "arkUnpacks", fn := fun _ => fun
  | [d] => { results := [.lit (.bool true)], args := [d] }
  | _ => none }
def arkUnpacksRow : OpenClaim := { program := "ytcahflddafdhfaa", sum := "0a9a461a81c9e50770aeffa6774164515398e13893079d531129b1b735bdbea1", func := "pentimento/pentimentolaw43.ArkUnpacks", spec := "arkUnpacks", unfollowed := true, recurses := true, apart := false }
def ArkUnpacksSaid : Prop := arkUnpacksRow.holds Try.pinned (OpenSpec.ofChange arkUnpacksSpec)

/-- ITS FALSE NEIGHBOUR: 'it returns false'. Refute it at one input. -/
def arkUnpacksWrong : ChangeSpec := { name := "arkUnpacks", fn := fun _ => fun
  | [d] => { results := [.lit (.bool false)], args := [d] }
  | _ => none }
def ArkUnpacksWrongFalsely : Prop := arkUnpacksRow.holds Try.pinned (OpenSpec.ofChange arkUnpacksWrong)

/-- 'pentimentolaw43.ArkByte': WHATEVER THE INPUT: true; the input reads as it did. -/
def arkByteSpec : ChangeSpec := { name := "arkByte", fn := fun _ => fun
  | [d1, d2, d3] => { results := [.lit (.bool true)], args := [d1, d2, d3] }
  | _ => none }
def arkByteRow : OpenClaim := { program := "ytcahflddafdhfaa", sum := "0a9a461a81c9e50770aeffa6774164515398e13893079d531129b1b735bdbea1", func := "pentimento/pentimentolaw43.ArkByte", spec := "arkByte", unfollowed := true, recurses := true, apart := false }
def ArkByteSaid : Prop := arkByteRow.holds Try.pinned (OpenSpec.ofChange arkByteSpec)

/-- ITS FALSE NEIGHBOUR: 'it returns false'. Refute it at one input. -/
def arkByteWrong : ChangeSpec := { name := "arkByte", fn := fun _ => fun
  | [d1, d2, d3] => { results := [.lit (.bool false)], args := [d1, d2, d3] }
  | _ => none }
def ArkByteWrongFalsely : Prop := arkByteRow.holds Try.pinned (OpenSpec.ofChange arkByteWrong)

/-- 'pentimentolaw21.FramePuts': WHATEVER THE INPUT: true; the input reads as it did. -/
def framePutsSpec : ChangeSpec := { name := "framePuts", fn := fun _ => fun
  | [d1, d2] => { results := [.lit (.bool true)], args := [d1, d2] }
  | _ => none }
def framePutsRow : OpenClaim := { program := "ytcahflddafdhfaa", sum := "0a9a461a81c9e50770aeffa6774164515398e13893079d531129b1b735bdbea1", func := "pentimento/pentimentolaw21.FramePuts", spec := "framePuts", unfollowed := true, recurses := true, apart := false }
def FramePutsSaid : Prop := framePutsRow.holds Try.pinned (OpenSpec.ofChange framePutsSpec)

/-- ITS FALSE NEIGHBOUR: 'it returns false'. Refute it at one input. -/
def framePutsWrong : ChangeSpec := { name := "framePuts", fn := fun _ => fun
  | [d1, d2] => { results := [.lit (.bool false)], args := [d1, d2] }
  | _ => none }
def FramePutsWrongFalsely : Prop := framePutsRow.holds Try.pinned (OpenSpec.ofChange framePutsWrong)

/-- 'pentimentolaw21.FrameGets': WHATEVER THE INPUT: true; the input reads as it did. -/
def frameGetsSpec : ChangeSpec := { name := "frameGets", fn := fun _ => fun
  | [d] => { results := [.lit (.bool true)], args := [d] }
  | _ => none }
def frameGetsRow : OpenClaim := { program := "ytcahflddafdhfaa", sum := "0a9a461a81c9e50770aeffa6774164515398e13893079d531129b1b735bdbea1", func := "pentimento/pentimentolaw21.FrameGets", spec := "frameGets", unfollowed := true, recurses := true, apart := false }
def FrameGetsSaid : Prop := frameGetsRow.holds Try.pinned (OpenSpec.ofChange frameGetsSpec)

/-- ITS FALSE NEIGHBOUR: 'it returns false'. Refute it at one input. -/
def frameGetsWrong : ChangeSpec := { name := "frameGets", fn := fun _ => fun
  | [d] => { results := [.lit (.bool false)], args := [d] }
  | _ => none }
def FrameGetsWrongFalsely : Prop := frameGetsRow.holds Try.pinned (OpenSpec.ofChange frameGetsWrong)

/-- 'pentimentolaw21.FrameSpoils': WHATEVER THE INPUT: true; the input reads as it did. -/
def frameSpoilsSpec : ChangeSpec := { name := "frameSpoils", fn := fun _ => fun
  | [d1, d2, d3, d4] => { results := [.lit (.bool true)], args := [d1, d2, d3, d4] }
  | _ => none }
def frameSpoilsRow : OpenClaim := { program := "ytcahflddafdhfaa", sum := "0a9a461a81c9e50770aeffa6774164515398e13893079d531129b1b735bdbea1", func := "pentimento/pentimentolaw21.FrameSpoils", spec := "frameSpoils", unfollowed := true, recurses := true, apart := false }
def FrameSpoilsSaid : Prop := frameSpoilsRow.holds Try.pinned (OpenSpec.ofChange frameSpoilsSpec)

/-- ITS FALSE NEIGHBOUR: 'it returns false'. Refute it at one input. -/
def frameSpoilsWrong : ChangeSpec := { name := "frameSpoils", fn := fun _ => fun
  | [d1, d2, d3, d4] => { results := [.lit (.bool false)], args := [d1, d2, d3, d4] }
  | _ => none }
def FrameSpoilsWrongFalsely : Prop := frameSpoilsRow.holds Try.pinned (OpenSpec.ofChange frameSpoilsWrong)

/- THE SECOND FORM. 'bulk': how many values and letters a reading holds, each counted each time it is reached (what is shared counts as often as it is met; a slice's spare places count too). A statement '..UptoSaid' is the law's where the arguments, and the package variables that the reading takes, are together of bulk at most 1048576: NARROWER than '..Said'. Prove '..Said' where nothing that the law and all that it calls make is longer than what came in: it says more and counts as full. Else prove '..UptoSaid'. A law counts once. -/
mutual
def uptoBulk {H : Type} : DataW H → Nat
  | .lit (.string bytes) => bytes.length + 1
  | .lit _ => 1
  | .nil => 1
  | .ptr d => uptoBulk d + 1
  | .slice elems spare => uptoBulkAll elems + uptoBulkAll spare + 1
  | .agg parts => uptoBulkAll parts + 1
  | .iface _ d => uptoBulk d + 1
  | .map entries => uptoBulkEntries entries + 1
  | .held _ => 1
def uptoBulkAll {H : Type} : List (DataW H) → Nat
  | [] => 0
  | d :: r => uptoBulk d + uptoBulkAll r
def uptoBulkEntries {H : Type} : List (Lit × DataW H) → Nat
  | [] => 0
  | x :: r => uptoBulkEntry x + uptoBulkEntries r
def uptoBulkEntry {H : Type} : Lit × DataW H → Nat
  | (.string bytes, d) => bytes.length + uptoBulk d + 1
  | (_, d) => uptoBulk d + 1
 end
def uptoSmall : (H : Type) → List (DataW H) → Bool := fun _ ds => decide (uptoBulkAll ds ≤ 1048576)
def OpenSpec.upto (s : _root_.Go.ChangeSpec) : _root_.Go.OpenSpec := { _root_.Go.OpenSpec.ofChange s with cond := some uptoSmall }

/-- 'pentimentolaw43.ArkPacks', WHERE WHAT IT READS IS OF BULK AT MOST 1048576: true; the input reads as it did. -/
def arkPacksUptoRow : OpenClaim := { program := "ytcahflddafdhfaa", sum := "0a9a461a81c9e50770aeffa6774164515398e13893079d531129b1b735bdbea1", func := "pentimento/pentimentolaw43.ArkPacks", spec := "arkPacks", unfollowed := true, recurses := true, apart := false, narrowed := true }
def ArkPacksUptoSaid : Prop := arkPacksUptoRow.holds Try.pinned (OpenSpec.upto arkPacksSpec)

/-- 'pentimentolaw43.ArkUnpacks', WHERE WHAT IT READS IS OF BULK AT MOST 1048576: true; the input reads as it did. -/
def arkUnpacksUptoRow : OpenClaim := { program := "ytcahflddafdhfaa", sum := "0a9a461a81c9e50770aeffa6774164515398e13893079d531129b1b735bdbea1", func := "pentimento/pentimentolaw43.ArkUnpacks", spec := "arkUnpacks", unfollowed := true, recurses := true, apart := false, narrowed := true }
def ArkUnpacksUptoSaid : Prop := arkUnpacksUptoRow.holds Try.pinned (OpenSpec.upto arkUnpacksSpec)

/-- 'pentimentolaw43.ArkByte', WHERE WHAT IT READS IS OF BULK AT MOST 1048576: true; the input reads as it did. -/
def arkByteUptoRow : OpenClaim := { program := "ytcahflddafdhfaa", sum := "0a9a461a81c9e50770aeffa6774164515398e13893079d531129b1b735bdbea1", func := "pentimento/pentimentolaw43.ArkByte", spec := "arkByte", unfollowed := true, recurses := true, apart := false, narrowed := true }
def ArkByteUptoSaid : Prop := arkByteUptoRow.holds Try.pinned (OpenSpec.upto arkByteSpec)

/-- 'pentimentolaw21.FramePuts', WHERE WHAT IT READS IS OF BULK AT MOST 1048576: true; the input reads as it did. -/
def framePutsUptoRow : OpenClaim := { program := "ytcahflddafdhfaa", sum := "0a9a461a81c9e50770aeffa6774164515398e13893079d531129b1b735bdbea1", func := "pentimento/pentimentolaw21.FramePuts", spec := "framePuts", unfollowed := true, recurses := true, apart := false, narrowed := true }
def FramePutsUptoSaid : Prop := framePutsUptoRow.holds Try.pinned (OpenSpec.upto framePutsSpec)

/-- 'pentimentolaw21.FrameGets', WHERE WHAT IT READS IS OF BULK AT MOST 1048576: true; the input reads as it did. -/
def frameGetsUptoRow : OpenClaim := { program := "ytcahflddafdhfaa", sum := "0a9a461a81c9e50770aeffa6774164515398e13893079d531129b1b735bdbea1", func := "pentimento/pentimentolaw21.FrameGets", spec := "frameGets", unfollowed := true, recurses := true, apart := false, narrowed := true }
def FrameGetsUptoSaid : Prop := frameGetsUptoRow.holds Try.pinned (OpenSpec.upto frameGetsSpec)

/-- 'pentimentolaw21.FrameSpoils', WHERE WHAT IT READS IS OF BULK AT MOST 1048576: true; the input reads as it did. -/
def frameSpoilsUptoRow : OpenClaim := { program := "ytcahflddafdhfaa", sum := "0a9a461a81c9e50770aeffa6774164515398e13893079d531129b1b735bdbea1", func := "pentimento/pentimentolaw21.FrameSpoils", spec := "frameSpoils", unfollowed := true, recurses := true, apart := false, narrowed := true }
def FrameSpoilsUptoSaid : Prop := frameSpoilsUptoRow.holds Try.pinned (OpenSpec.upto frameSpoilsSpec)

end Rows
end Go.Proofs.Ytcahflddafdhfaa
