/-
  No cell of these rows narrows 'for every input' (looked for: loops, veiled, ifaces, maps, wideKeys, modest, calm, conditions, laid).
  DERIVED. THE GIVEN ROWS OF THIS SEAT. 12 by the template 'for every input the law returns true; each argument reads behind the call as it read before'; 0 by the template 'total and deterministic' (their statements: YtfeddgeihpfjfaaTotals.lean).
  GIVEN WITH THE SEED: the statements are not yours to turn. If you find one false, say at which input.
  Laid BY PROGRAM, IN A SANDBOX (cutbox-rows.mjs): the forced cells as the released guide's own fill.sh prints them over the translation b319f41b5ab2500e… (all of the seat's roots in one cut). By AI agents, Wed Nov 11 2026. No macro, syntax, notation, axiom, sorry.
-/
import Derived.Test.YtfeddgeihpfjfaaChecked
import GoSem.Claim
import GoSem.ClaimJoined
import GoSem.ClaimMapViews
import Derived.JoinedTies
import Derived.KernelRfl
namespace Go.Proofs.Ytfeddgeihpfjfaa
/- THE CELL 'sum', in the pinned program and in every row, IS THE sha256 OF THE DUMP (.gsa) THAT YtfeddgeihpfjfaaProg.lean LOADS. Nothing in Lean hashes anything: it is a label: what it is worth is what the hold of that sum in a sandbox is worth. -/
noncomputable def Try.pinned : Pinned := { name := "ytfeddgeihpfjfaa", sum := "b319f41b5ab2500e10cc41b878c79b439c4b3491c10a8390a233786d77e124c8", checked := Try.checked }
namespace Rows
def none {H : Type} : Left H := { results := [], args := [] }

/-- 'patchbaylaw1.CreditPlays': WHATEVER THE INPUT: true; the input reads as it did. -/
def creditPlaysSpec : ChangeSpec := { name := "creditPlays", fn := fun _ => fun
  | [d1, d2] => { results := [.lit (.bool true)], args := [d1, d2] }
  | _ => none }
def creditPlaysRow : OpenClaim := { program := "ytfeddgeihpfjfaa", sum := "b319f41b5ab2500e10cc41b878c79b439c4b3491c10a8390a233786d77e124c8", func := "patchbay/patchbaylaw1.CreditPlays", spec := "creditPlays", apart := false }
def CreditPlaysSaid : Prop := creditPlaysRow.holds Try.pinned (OpenSpec.ofChange creditPlaysSpec)

/-- ITS FALSE NEIGHBOUR: 'it returns false'. Refute it at one input. -/
def creditPlaysWrong : ChangeSpec := { name := "creditPlays", fn := fun _ => fun
  | [d1, d2] => { results := [.lit (.bool false)], args := [d1, d2] }
  | _ => none }
def CreditPlaysWrongFalsely : Prop := creditPlaysRow.holds Try.pinned (OpenSpec.ofChange creditPlaysWrong)

/-- 'patchbaylaw1.CrcSays': WHATEVER THE INPUT: true; the input reads as it did. -/
def crcSaysSpec : ChangeSpec := { name := "crcSays", fn := fun _ => fun
  | [d1, d2, d3, d4] => { results := [.lit (.bool true)], args := [d1, d2, d3, d4] }
  | _ => none }
def crcSaysRow : OpenClaim := { program := "ytfeddgeihpfjfaa", sum := "b319f41b5ab2500e10cc41b878c79b439c4b3491c10a8390a233786d77e124c8", func := "patchbay/patchbaylaw1.CrcSays", spec := "crcSays", unfollowed := true, recurses := true, apart := false }
def CrcSaysSaid : Prop := crcSaysRow.holds Try.pinned (OpenSpec.ofChange crcSaysSpec)

/-- ITS FALSE NEIGHBOUR: 'it returns false'. Refute it at one input. -/
def crcSaysWrong : ChangeSpec := { name := "crcSays", fn := fun _ => fun
  | [d1, d2, d3, d4] => { results := [.lit (.bool false)], args := [d1, d2, d3, d4] }
  | _ => none }
def CrcSaysWrongFalsely : Prop := crcSaysRow.holds Try.pinned (OpenSpec.ofChange crcSaysWrong)

/-- 'patchbaylaw1.SlideTakes': WHATEVER THE INPUT: true; the input reads as it did. -/
def slideTakesSpec : ChangeSpec := { name := "slideTakes", fn := fun _ => fun
  | [d1, d2, d3] => { results := [.lit (.bool true)], args := [d1, d2, d3] }
  | _ => none }
def slideTakesRow : OpenClaim := { program := "ytfeddgeihpfjfaa", sum := "b319f41b5ab2500e10cc41b878c79b439c4b3491c10a8390a233786d77e124c8", func := "patchbay/patchbaylaw1.SlideTakes", spec := "slideTakes", recurses := true, apart := false }
def SlideTakesSaid : Prop := slideTakesRow.holds Try.pinned (OpenSpec.ofChange slideTakesSpec)

/-- ITS FALSE NEIGHBOUR: 'it returns false'. Refute it at one input. -/
def slideTakesWrong : ChangeSpec := { name := "slideTakes", fn := fun _ => fun
  | [d1, d2, d3] => { results := [.lit (.bool false)], args := [d1, d2, d3] }
  | _ => none }
def SlideTakesWrongFalsely : Prop := slideTakesRow.holds Try.pinned (OpenSpec.ofChange slideTakesWrong)

/-- 'patchbaylaw1.BackoffSays': WHATEVER THE INPUT: true; the input reads as it did. -/
def backoffSaysSpec : ChangeSpec := { name := "backoffSays", fn := fun _ => fun
  | [d1, d2, d3, d4] => { results := [.lit (.bool true)], args := [d1, d2, d3, d4] }
  | _ => none }
def backoffSaysRow : OpenClaim := { program := "ytfeddgeihpfjfaa", sum := "b319f41b5ab2500e10cc41b878c79b439c4b3491c10a8390a233786d77e124c8", func := "patchbay/patchbaylaw1.BackoffSays", spec := "backoffSays", apart := false }
def BackoffSaysSaid : Prop := backoffSaysRow.holds Try.pinned (OpenSpec.ofChange backoffSaysSpec)

/-- ITS FALSE NEIGHBOUR: 'it returns false'. Refute it at one input. -/
def backoffSaysWrong : ChangeSpec := { name := "backoffSays", fn := fun _ => fun
  | [d1, d2, d3, d4] => { results := [.lit (.bool false)], args := [d1, d2, d3, d4] }
  | _ => none }
def BackoffSaysWrongFalsely : Prop := backoffSaysRow.holds Try.pinned (OpenSpec.ofChange backoffSaysWrong)

/-- 'patchbaylaw1.MediumSays': WHATEVER THE INPUT: true; the input reads as it did. -/
def mediumSaysSpec : ChangeSpec := { name := "mediumSays", fn := fun _ => fun
  | [d1, d2, d3, d4] => { results := [.lit (.bool true)], args := [d1, d2, d3, d4] }
  | _ => none }
def mediumSaysRow : OpenClaim := { program := "ytfeddgeihpfjfaa", sum := "b319f41b5ab2500e10cc41b878c79b439c4b3491c10a8390a233786d77e124c8", func := "patchbay/patchbaylaw1.MediumSays", spec := "mediumSays", apart := false }
def MediumSaysSaid : Prop := mediumSaysRow.holds Try.pinned (OpenSpec.ofChange mediumSaysSpec)

/-- ITS FALSE NEIGHBOUR: 'it returns false'. Refute it at one input. -/
def mediumSaysWrong : ChangeSpec := { name := "mediumSays", fn := fun _ => fun
  | [d1, d2, d3, d4] => { results := [.lit (.bool false)], args := [d1, d2, d3, d4] }
  | _ => none }
def MediumSaysWrongFalsely : Prop := mediumSaysRow.holds Try.pinned (OpenSpec.ofChange mediumSaysWrong)

/-- 'patchbaytop.TopVlan': WHATEVER THE INPUT: true; the input reads as it did. -/
def topVlanSpec : ChangeSpec := { name := "topVlan", fn := fun _ => fun
  | [d1, d2] => { results := [.lit (.bool true)], args := [d1, d2] }
  | _ => none }
def topVlanRow : OpenClaim := { program := "ytfeddgeihpfjfaa", sum := "b319f41b5ab2500e10cc41b878c79b439c4b3491c10a8390a233786d77e124c8", func := "patchbay/patchbaytop.TopVlan", spec := "topVlan", apart := false }
def TopVlanSaid : Prop := topVlanRow.holds Try.pinned (OpenSpec.ofChange topVlanSpec)

/-- ITS FALSE NEIGHBOUR: 'it returns false'. Refute it at one input. -/
def topVlanWrong : ChangeSpec := { name := "topVlan", fn := fun _ => fun
  | [d1, d2] => { results := [.lit (.bool false)], args := [d1, d2] }
  | _ => none }
def TopVlanWrongFalsely : Prop := topVlanRow.holds Try.pinned (OpenSpec.ofChange topVlanWrong)

/-- 'patchbaylaw1.LearnPlays': WHATEVER THE INPUT: true; the input reads as it did. -/
def learnPlaysSpec : ChangeSpec := { name := "learnPlays", fn := fun _ => fun
  | [d1, d2, d3] => { results := [.lit (.bool true)], args := [d1, d2, d3] }
  | _ => none }
def learnPlaysRow : OpenClaim := { program := "ytfeddgeihpfjfaa", sum := "b319f41b5ab2500e10cc41b878c79b439c4b3491c10a8390a233786d77e124c8", func := "patchbay/patchbaylaw1.LearnPlays", spec := "learnPlays", apart := false }
def LearnPlaysSaid : Prop := learnPlaysRow.holds Try.pinned (OpenSpec.ofChange learnPlaysSpec)

/-- ITS FALSE NEIGHBOUR: 'it returns false'. Refute it at one input. -/
def learnPlaysWrong : ChangeSpec := { name := "learnPlays", fn := fun _ => fun
  | [d1, d2, d3] => { results := [.lit (.bool false)], args := [d1, d2, d3] }
  | _ => none }
def LearnPlaysWrongFalsely : Prop := learnPlaysRow.holds Try.pinned (OpenSpec.ofChange learnPlaysWrong)

/-- 'patchbaytop.TopAreas': WHATEVER THE INPUT: true; the input reads as it did. -/
def topAreasSpec : ChangeSpec := { name := "topAreas", fn := fun _ => fun
  | [d1, d2] => { results := [.lit (.bool true)], args := [d1, d2] }
  | _ => none }
def topAreasRow : OpenClaim := { program := "ytfeddgeihpfjfaa", sum := "b319f41b5ab2500e10cc41b878c79b439c4b3491c10a8390a233786d77e124c8", func := "patchbay/patchbaytop.TopAreas", spec := "topAreas", unfollowed := true, recurses := true, apart := false }
def TopAreasSaid : Prop := topAreasRow.holds Try.pinned (OpenSpec.ofChange topAreasSpec)

/-- ITS FALSE NEIGHBOUR: 'it returns false'. Refute it at one input. -/
def topAreasWrong : ChangeSpec := { name := "topAreas", fn := fun _ => fun
  | [d1, d2] => { results := [.lit (.bool false)], args := [d1, d2] }
  | _ => none }
def TopAreasWrongFalsely : Prop := topAreasRow.holds Try.pinned (OpenSpec.ofChange topAreasWrong)

/-- 'patchbaylaw1.TagSays': WHATEVER THE INPUT: true; the input reads as it did. -/
def tagSaysSpec : ChangeSpec := { name := "tagSays", fn := fun _ => fun
  | [d1, d2, d3] => { results := [.lit (.bool true)], args := [d1, d2, d3] }
  | _ => none }
def tagSaysRow : OpenClaim := { program := "ytfeddgeihpfjfaa", sum := "b319f41b5ab2500e10cc41b878c79b439c4b3491c10a8390a233786d77e124c8", func := "patchbay/patchbaylaw1.TagSays", spec := "tagSays", apart := false }
def TagSaysSaid : Prop := tagSaysRow.holds Try.pinned (OpenSpec.ofChange tagSaysSpec)

/-- ITS FALSE NEIGHBOUR: 'it returns false'. Refute it at one input. -/
def tagSaysWrong : ChangeSpec := { name := "tagSays", fn := fun _ => fun
  | [d1, d2, d3] => { results := [.lit (.bool false)], args := [d1, d2, d3] }
  | _ => none }
def TagSaysWrongFalsely : Prop := tagSaysRow.holds Try.pinned (OpenSpec.ofChange tagSaysWrong)

/-- 'patchbaylaw1.BitsSays': WHATEVER THE INPUT: true; the input reads as it did. -/
def bitsSaysSpec : ChangeSpec := { name := "bitsSays", fn := fun _ => fun
  | [d1, d2, d3, d4] => { results := [.lit (.bool true)], args := [d1, d2, d3, d4] }
  | _ => none }
def bitsSaysRow : OpenClaim := { program := "ytfeddgeihpfjfaa", sum := "b319f41b5ab2500e10cc41b878c79b439c4b3491c10a8390a233786d77e124c8", func := "patchbay/patchbaylaw1.BitsSays", spec := "bitsSays", inPlace := ["internal/abi.NoEscape"], recurses := true, apart := false }
def BitsSaysSaid : Prop := bitsSaysRow.holds Try.pinned (OpenSpec.ofChange bitsSaysSpec)

/-- ITS FALSE NEIGHBOUR: 'it returns false'. Refute it at one input. -/
def bitsSaysWrong : ChangeSpec := { name := "bitsSays", fn := fun _ => fun
  | [d1, d2, d3, d4] => { results := [.lit (.bool false)], args := [d1, d2, d3, d4] }
  | _ => none }
def BitsSaysWrongFalsely : Prop := bitsSaysRow.holds Try.pinned (OpenSpec.ofChange bitsSaysWrong)

/-- 'patchbaytop.TopLoopless': WHATEVER THE INPUT: true; the input reads as it did. -/
def topLooplessSpec : ChangeSpec := { name := "topLoopless", fn := fun _ => fun
  | [d1, d2, d3, d4] => { results := [.lit (.bool true)], args := [d1, d2, d3, d4] }
  | _ => none }
def topLooplessRow : OpenClaim := { program := "ytfeddgeihpfjfaa", sum := "b319f41b5ab2500e10cc41b878c79b439c4b3491c10a8390a233786d77e124c8", func := "patchbay/patchbaytop.TopLoopless", spec := "topLoopless", unfollowed := true, recurses := true, apart := false }
def TopLooplessSaid : Prop := topLooplessRow.holds Try.pinned (OpenSpec.ofChange topLooplessSpec)

/-- ITS FALSE NEIGHBOUR: 'it returns false'. Refute it at one input. -/
def topLooplessWrong : ChangeSpec := { name := "topLoopless", fn := fun _ => fun
  | [d1, d2, d3, d4] => { results := [.lit (.bool false)], args := [d1, d2, d3, d4] }
  | _ => none }
def TopLooplessWrongFalsely : Prop := topLooplessRow.holds Try.pinned (OpenSpec.ofChange topLooplessWrong)

/-- 'patchbaylaw1.LagSays': WHATEVER THE INPUT: true; the input reads as it did. -/
def lagSaysSpec : ChangeSpec := { name := "lagSays", fn := fun _ => fun
  | [d1, d2, d3, d4] => { results := [.lit (.bool true)], args := [d1, d2, d3, d4] }
  | _ => none }
def lagSaysRow : OpenClaim := { program := "ytfeddgeihpfjfaa", sum := "b319f41b5ab2500e10cc41b878c79b439c4b3491c10a8390a233786d77e124c8", func := "patchbay/patchbaylaw1.LagSays", spec := "lagSays", apart := false }
def LagSaysSaid : Prop := lagSaysRow.holds Try.pinned (OpenSpec.ofChange lagSaysSpec)

/-- ITS FALSE NEIGHBOUR: 'it returns false'. Refute it at one input. -/
def lagSaysWrong : ChangeSpec := { name := "lagSays", fn := fun _ => fun
  | [d1, d2, d3, d4] => { results := [.lit (.bool false)], args := [d1, d2, d3, d4] }
  | _ => none }
def LagSaysWrongFalsely : Prop := lagSaysRow.holds Try.pinned (OpenSpec.ofChange lagSaysWrong)

/- THE SECOND FORM. 'bulk': how many values and letters a reading holds, each counted each time it is reached (what is shared counts as often as it is met; a slice's spare places count too). A statement '..UptoSaid' is the law's where the arguments, and the package variables that the reading takes, are together of bulk at most 1048576: NARROWER than '..Said'. Prove '..Said' where nothing that the law and all that it calls make is longer than what came in: it says more and counts as full. Else prove '..UptoSaid'. A law counts once. -/
mutual
def uptoBulk {H : Type} : DataW H → Nat
  | .lit (.string bytes) => bytes.length + 1
  | .lit _ => 1
  | .nil => 1
  | .ptr d => uptoBulk d + 1
  | .slice elems spare => uptoBulkAll elems + uptoBulkAll spare + 1
  | .agg parts => uptoBulkAll parts + 1
  | .iface _ d => uptoBulk d + 1
  | .map entries => uptoBulkEntries entries + 1
  | .held _ => 1
def uptoBulkAll {H : Type} : List (DataW H) → Nat
  | [] => 0
  | d :: r => uptoBulk d + uptoBulkAll r
def uptoBulkEntries {H : Type} : List (Lit × DataW H) → Nat
  | [] => 0
  | x :: r => uptoBulkEntry x + uptoBulkEntries r
def uptoBulkEntry {H : Type} : Lit × DataW H → Nat
  | (.string bytes, d) => bytes.length + uptoBulk d + 1
  | (_, d) => uptoBulk d + 1
 end
def uptoSmall : (H : Type) → List (DataW H) → Bool := fun _ ds => decide (uptoBulkAll ds ≤ 1048576)
def OpenSpec.upto (s : _root_.Go.ChangeSpec) : _root_.Go.OpenSpec := { _root_.Go.OpenSpec.ofChange s with cond := some uptoSmall }

/-- 'patchbaylaw1.CreditPlays', WHERE WHAT IT READS IS OF BULK AT MOST 1048576: true; the input reads as it did. -/
def creditPlaysUptoRow : OpenClaim := { program := "ytfeddgeihpfjfaa", sum := "b319f41b5ab2500e10cc41b878c79b439c4b3491c10a8390a233786d77e124c8", func := "patchbay/patchbaylaw1.CreditPlays", spec := "creditPlays", apart := false, narrowed := true }
def CreditPlaysUptoSaid : Prop := creditPlaysUptoRow.holds Try.pinned (OpenSpec.upto creditPlaysSpec)

/-- 'patchbaylaw1.CrcSays', WHERE WHAT IT READS IS OF BULK AT MOST 1048576: true; the input reads as it did. -/
def crcSaysUptoRow : OpenClaim := { program := "ytfeddgeihpfjfaa", sum := "b319f41b5ab2500e10cc41b878c79b439c4b3491c10a8390a233786d77e124c8", func := "patchbay/patchbaylaw1.CrcSays", spec := "crcSays", unfollowed := true, recurses := true, apart := false, narrowed := true }
def CrcSaysUptoSaid : Prop := crcSaysUptoRow.holds Try.pinned (OpenSpec.upto crcSaysSpec)

/-- 'patchbaylaw1.SlideTakes', WHERE WHAT IT READS IS OF BULK AT MOST 1048576: true; the input reads as it did. -/
def slideTakesUptoRow : OpenClaim := { program := "ytfeddgeihpfjfaa", sum := "b319f41b5ab2500e10cc41b878c79b439c4b3491c10a8390a233786d77e124c8", func := "patchbay/patchbaylaw1.SlideTakes", spec := "slideTakes", recurses := true, apart := false, narrowed := true }
def SlideTakesUptoSaid : Prop := slideTakesUptoRow.holds Try.pinned (OpenSpec.upto slideTakesSpec)

/-- 'patchbaylaw1.BackoffSays', WHERE WHAT IT READS IS OF BULK AT MOST 1048576: true; the input reads as it did. -/
def backoffSaysUptoRow : OpenClaim := { program := "ytfeddgeihpfjfaa", sum := "b319f41b5ab2500e10cc41b878c79b439c4b3491c10a8390a233786d77e124c8", func := "patchbay/patchbaylaw1.BackoffSays", spec := "backoffSays", apart := false, narrowed := true }
def BackoffSaysUptoSaid : Prop := backoffSaysUptoRow.holds Try.pinned (OpenSpec.upto backoffSaysSpec)

/-- 'patchbaylaw1.MediumSays', WHERE WHAT IT READS IS OF BULK AT MOST 1048576: true; the input reads as it did. -/
def mediumSaysUptoRow : OpenClaim := { program := "ytfeddgeihpfjfaa", sum := "b319f41b5ab2500e10cc41b878c79b439c4b3491c10a8390a233786d77e124c8", func := "patchbay/patchbaylaw1.MediumSays", spec := "mediumSays", apart := false, narrowed := true }
def MediumSaysUptoSaid : Prop := mediumSaysUptoRow.holds Try.pinned (OpenSpec.upto mediumSaysSpec)

/-- 'patchbaytop.TopVlan', WHERE WHAT IT READS IS OF BULK AT MOST 1048576: true; the input reads as it did. -/
def topVlanUptoRow : OpenClaim := { program := "ytfeddgeihpfjfaa", sum := "b319f41b5ab2500e10cc41b878c79b439c4b3491c10a8390a233786d77e124c8", func := "patchbay/patchbaytop.TopVlan", spec := "topVlan", apart := false, narrowed := true }
def TopVlanUptoSaid : Prop := topVlanUptoRow.holds Try.pinned (OpenSpec.upto topVlanSpec)

/-- 'patchbaylaw1.LearnPlays', WHERE WHAT IT READS IS OF BULK AT MOST 1048576: true; the input reads as it did. -/
def learnPlaysUptoRow : OpenClaim := { program := "ytfeddgeihpfjfaa", sum := "b319f41b5ab2500e10cc41b878c79b439c4b3491c10a8390a233786d77e124c8", func := "patchbay/patchbaylaw1.LearnPlays", spec := "learnPlays", apart := false, narrowed := true }
def LearnPlaysUptoSaid : Prop := learnPlaysUptoRow.holds Try.pinned (OpenSpec.upto learnPlaysSpec)

/-- 'patchbaytop.TopAreas', WHERE WHAT IT READS IS OF BULK AT MOST 1048576: true; the input reads as it did. -/
def topAreasUptoRow : OpenClaim := { program := "ytfeddgeihpfjfaa", sum := "b319f41b5ab2500e10cc41b878c79b439c4b3491c10a8390a233786d77e124c8", func := "patchbay/patchbaytop.TopAreas", spec := "topAreas", unfollowed := true, recurses := true, apart := false, narrowed := true }
def TopAreasUptoSaid : Prop := topAreasUptoRow.holds Try.pinned (OpenSpec.upto topAreasSpec)

/-- 'patchbaylaw1.TagSays', WHERE WHAT IT READS IS OF BULK AT MOST 1048576: true; the input reads as it did. -/
def tagSaysUptoRow : OpenClaim := { program := "ytfeddgeihpfjfaa", sum := "b319f41b5ab2500e10cc41b878c79b439c4b3491c10a8390a233786d77e124c8", func := "patchbay/patchbaylaw1.TagSays", spec := "tagSays", apart := false, narrowed := true }
def TagSaysUptoSaid : Prop := tagSaysUptoRow.holds Try.pinned (OpenSpec.upto tagSaysSpec)

/-- 'patchbaylaw1.BitsSays', WHERE WHAT IT READS IS OF BULK AT MOST 1048576: true; the input reads as it did. -/
def bitsSaysUptoRow : OpenClaim := { program := "ytfeddgeihpfjfaa", sum := "b319f41b5ab2500e10cc41b878c79b439c4b3491c10a8390a233786d77e124c8", func := "patchbay/patchbaylaw1.BitsSays", spec := "bitsSays", inPlace := ["internal/abi.NoEscape"], recurses := true, apart := false, narrowed := true }
def BitsSaysUptoSaid : Prop := bitsSaysUptoRow.holds Try.pinned (OpenSpec.upto bitsSaysSpec)

/-- 'patchbaytop.TopLoopless', WHERE WHAT IT READS IS OF BULK AT MOST 1048576: true; the input reads as it did. -/
def topLooplessUptoRow : OpenClaim := { program := "ytfeddgeihpfjfaa", sum := "b319f41b5ab2500e10cc41b878c79b439c4b3491c10a8390a233786d77e124c8", func := "patchbay/patchbaytop.TopLoopless", spec := "topLoopless", unfollowed := true, recurses := true, apart := false, narrowed := true }
def TopLooplessUptoSaid : Prop := topLooplessUptoRow.holds Try.pinned (OpenSpec.upto topLooplessSpec)

/-- 'patchbaylaw1.LagSays', WHERE WHAT IT READS IS OF BULK AT MOST 1048576: true; the input reads as it did. -/
def lagSaysUptoRow : OpenClaim := { program := "ytfeddgeihpfjfaa", sum := "b319f41b5ab2500e10cc41b878c79b439c4b3491c10a8390a233786d77e124c8", func := "patchbay/patchbaylaw1.LagSays", spec := "lagSays", apart := false, narrowed := true }
def LagSaysUptoSaid : Prop := lagSaysUptoRow.holds Try.pinned (OpenSpec.upto lagSaysSpec)

end Rows
end Go.Proofs.Ytfeddgeihpfjfaa
