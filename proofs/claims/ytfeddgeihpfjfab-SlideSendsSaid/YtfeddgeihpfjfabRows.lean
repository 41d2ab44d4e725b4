/-
  No cell of these rows narrows 'for every input' (looked for: loops, veiled, ifaces, maps, wideKeys, modest, calm, conditions, laid).
  DERIVED. THE GIVEN ROWS OF THIS SEAT. 7 by the template 'for every input the law returns true; each argument reads behind the call as it read before'; 0 by the template 'total and deterministic' (their statements: YtfeddgeihpfjfabTotals.lean).
  GIVEN WITH THE SEED: the statements are not yours to turn. If you find one false, say at which input.
  Laid BY PROGRAM, IN A SANDBOX (cutbox-rows.mjs): the forced cells as the released guide's own fill.sh prints them over the translation 42346cbd6e9f44f6… (all of the seat's roots in one cut). By AI agents, Wed Nov 11 2026. No macro, syntax, notation, axiom, sorry.
-/
import Derived.Test.YtfeddgeihpfjfabChecked
import GoSem.Claim
import GoSem.ClaimJoined
import GoSem.ClaimMapViews
import Derived.JoinedTies
import Derived.KernelRfl
namespace Go.Proofs.Ytfeddgeihpfjfab
/- THE CELL 'sum', in the pinned program and in every row, IS THE sha256 OF THE DUMP (.gsa) THAT YtfeddgeihpfjfabProg.lean LOADS. Nothing in Lean hashes anything: it is a label: what it is worth is what the hold of that sum in a sandbox is worth. -/
noncomputable def Try.pinned : Pinned := { name := "ytfeddgeihpfjfab", sum := "42346cbd6e9f44f680e1a0b542dd55b5f5eab6d651d6c6801eedb591cfbfd662", checked := Try.checked }
namespace Rows
def none {H : Type} : Left H := { results := [], args := [] }

/-- 'patchbaylaw1.SlideSends': WHATEVER THE INPUT: true; the input reads as it did. -/
def slideSendsSpec : ChangeSpec := { name := "slideSends", fn := fun _ => fun
  | [d1, d2, d3] => { results := [.lit (.bool true)], args := [d1, d2, d3] }
  | _ => none }
def slideSendsRow : OpenClaim := { program := "ytfeddgeihpfjfab", sum := "42346cbd6e9f44f680e1a0b542dd55b5f5eab6d651d6c6801eedb591cfbfd662", func := "patchbay/patchbaylaw1.SlideSends", spec := "slideSends", recurses := true, apart := false }
def SlideSendsSaid : Prop := slideSendsRow.holds Try.pinned (OpenSpec.ofChange slideSendsSpec)

/-- ITS FALSE NEIGHBOUR: 'it returns false'. Refute it at one input. -/
def slideSendsWrong : ChangeSpec := { name := "slideSends", fn := fun _ => fun
  | [d1, d2, d3] => { results := [.lit (.bool false)], args := [d1, d2, d3] }
  | _ => none }
def SlideSendsWrongFalsely : Prop := slideSendsRow.holds Try.pinned (OpenSpec.ofChange slideSendsWrong)

/-- 'patchbaylaw1.FecSays': WHATEVER THE INPUT: true; the input reads as it did. -/
def fecSaysSpec : ChangeSpec := { name := "fecSays", fn := fun _ => fun
  | [d1, d2, d3, d4, d5] => { results := [.lit (.bool true)], args := [d1, d2, d3, d4, d5] }
  | _ => none }
def fecSaysRow : OpenClaim := { program := "ytfeddgeihpfjfab", sum := "42346cbd6e9f44f680e1a0b542dd55b5f5eab6d651d6c6801eedb591cfbfd662", func := "patchbay/patchbaylaw1.FecSays", spec := "fecSays", recurses := true, apart := false }
def FecSaysSaid : Prop := fecSaysRow.holds Try.pinned (OpenSpec.ofChange fecSaysSpec)

/-- ITS FALSE NEIGHBOUR: 'it returns false'. Refute it at one input. -/
def fecSaysWrong : ChangeSpec := { name := "fecSays", fn := fun _ => fun
  | [d1, d2, d3, d4, d5] => { results := [.lit (.bool false)], args := [d1, d2, d3, d4, d5] }
  | _ => none }
def FecSaysWrongFalsely : Prop := fecSaysRow.holds Try.pinned (OpenSpec.ofChange fecSaysWrong)

/-- 'patchbaylaw1.BridgePlays': WHATEVER THE INPUT: true; the input reads as it did. -/
def bridgePlaysSpec : ChangeSpec := { name := "bridgePlays", fn := fun _ => fun
  | [d1, d2, d3, d4, d5] => { results := [.lit (.bool true)], args := [d1, d2, d3, d4, d5] }
  | _ => none }
def bridgePlaysRow : OpenClaim := { program := "ytfeddgeihpfjfab", sum := "42346cbd6e9f44f680e1a0b542dd55b5f5eab6d651d6c6801eedb591cfbfd662", func := "patchbay/patchbaylaw1.BridgePlays", spec := "bridgePlays", apart := false }
def BridgePlaysSaid : Prop := bridgePlaysRow.holds Try.pinned (OpenSpec.ofChange bridgePlaysSpec)

/-- ITS FALSE NEIGHBOUR: 'it returns false'. Refute it at one input. -/
def bridgePlaysWrong : ChangeSpec := { name := "bridgePlays", fn := fun _ => fun
  | [d1, d2, d3, d4, d5] => { results := [.lit (.bool false)], args := [d1, d2, d3, d4, d5] }
  | _ => none }
def BridgePlaysWrongFalsely : Prop := bridgePlaysRow.holds Try.pinned (OpenSpec.ofChange bridgePlaysWrong)

/-- 'patchbaylaw1.ClockSays': WHATEVER THE INPUT: true; the input reads as it did. -/
def clockSaysSpec : ChangeSpec := { name := "clockSays", fn := fun _ => fun
  | [d1, d2] => { results := [.lit (.bool true)], args := [d1, d2] }
  | _ => none }
def clockSaysRow : OpenClaim := { program := "ytfeddgeihpfjfab", sum := "42346cbd6e9f44f680e1a0b542dd55b5f5eab6d651d6c6801eedb591cfbfd662", func := "patchbay/patchbaylaw1.ClockSays", spec := "clockSays", inPlace := ["internal/bytealg.CountString", "internal/bytealg.IndexByteString", "internal/bytealg.IndexString", "sync/atomic.LoadUint32", "(*internal/sync.Mutex).Lock", "internal/race.Disable", "sync/atomic.CompareAndSwapInt32", "internal/race.Enable", "internal/race.Acquire", "(*internal/sync.Mutex).lockSlow", "internal/sync.runtime_canSpin", "internal/sync.runtime_doSpin", "internal/sync.throw", "internal/sync.runtime_nanotime", "internal/sync.runtime_SemacquireMutex", "sync/atomic.AddInt32", "(*internal/sync.Mutex).Unlock", "internal/race.ReleaseMerge", "(*internal/sync.Mutex).unlockSlow", "internal/sync.fatal", "internal/sync.runtime_Semrelease", "sync/atomic.StoreUint32"], unfollowed := true, recurses := true, named := ["internal/bytealg.MaxLen"], apart := false }
def ClockSaysSaid : Prop := clockSaysRow.holds Try.pinned (OpenSpec.ofChange clockSaysSpec)

/-- ITS FALSE NEIGHBOUR: 'it returns false'. Refute it at one input. -/
def clockSaysWrong : ChangeSpec := { name := "clockSays", fn := fun _ => fun
  | [d1, d2] => { results := [.lit (.bool false)], args := [d1, d2] }
  | _ => none }
def ClockSaysWrongFalsely : Prop := clockSaysRow.holds Try.pinned (OpenSpec.ofChange clockSaysWrong)

/-- 'patchbaylaw1.SpanSays': WHATEVER THE INPUT: true; the input reads as it did. -/
def spanSaysSpec : ChangeSpec := { name := "spanSays", fn := fun _ => fun
  | [d1, d2, d3] => { results := [.lit (.bool true)], args := [d1, d2, d3] }
  | _ => none }
def spanSaysRow : OpenClaim := { program := "ytfeddgeihpfjfab", sum := "42346cbd6e9f44f680e1a0b542dd55b5f5eab6d651d6c6801eedb591cfbfd662", func := "patchbay/patchbaylaw1.SpanSays", spec := "spanSays", unfollowed := true, recurses := true, apart := false }
def SpanSaysSaid : Prop := spanSaysRow.holds Try.pinned (OpenSpec.ofChange spanSaysSpec)

/-- ITS FALSE NEIGHBOUR: 'it returns false'. Refute it at one input. -/
def spanSaysWrong : ChangeSpec := { name := "spanSays", fn := fun _ => fun
  | [d1, d2, d3] => { results := [.lit (.bool false)], args := [d1, d2, d3] }
  | _ => none }
def SpanSaysWrongFalsely : Prop := spanSaysRow.holds Try.pinned (OpenSpec.ofChange spanSaysWrong)

/-- 'patchbaylaw1.SpanSettles': WHATEVER THE INPUT: true; the input reads as it did. -/
def spanSettlesSpec : ChangeSpec := { name := "spanSettles", fn := fun _ => fun
  | [d] => { results := [.lit (.bool true)], args := [d] }
  | _ => none }
def spanSettlesRow : OpenClaim := { program := "ytfeddgeihpfjfab", sum := "42346cbd6e9f44f680e1a0b542dd55b5f5eab6d651d6c6801eedb591cfbfd662", func := "patchbay/patchbaylaw1.SpanSettles", spec := "spanSettles", unfollowed := true, recurses := true, apart := false }
def SpanSettlesSaid : Prop := spanSettlesRow.holds Try.pinned (OpenSpec.ofChange spanSettlesSpec)

/-- ITS FALSE NEIGHBOUR: 'it returns false'. Refute it at one input. -/
def spanSettlesWrong : ChangeSpec := { name := "spanSettles", fn := fun _ => fun
  | [d] => { results := [.lit (.bool false)], args := [d] }
  | _ => none }
def SpanSettlesWrongFalsely : Prop := spanSettlesRow.holds Try.pinned (OpenSpec.ofChange spanSettlesWrong)

/-- 'patchbaytop.TopSwitch': WHATEVER THE INPUT: true; the input reads as it did. -/
def topSwitchSpec : ChangeSpec := { name := "topSwitch", fn := fun _ => fun
  | [d1, d2, d3, d4] => { results := [.lit (.bool true)], args := [d1, d2, d3, d4] }
  | _ => none }
def topSwitchRow : OpenClaim := { program := "ytfeddgeihpfjfab", sum := "42346cbd6e9f44f680e1a0b542dd55b5f5eab6d651d6c6801eedb591cfbfd662", func := "patchbay/patchbaytop.TopSwitch", spec := "topSwitch", unfollowed := true, recurses := true, apart := false }
def TopSwitchSaid : Prop := topSwitchRow.holds Try.pinned (OpenSpec.ofChange topSwitchSpec)

/-- ITS FALSE NEIGHBOUR: 'it returns false'. Refute it at one input. -/
def topSwitchWrong : ChangeSpec := { name := "topSwitch", fn := fun _ => fun
  | [d1, d2, d3, d4] => { results := [.lit (.bool false)], args := [d1, d2, d3, d4] }
  | _ => none }
def TopSwitchWrongFalsely : Prop := topSwitchRow.holds Try.pinned (OpenSpec.ofChange topSwitchWrong)

/- THE SECOND FORM. 'bulk': how many values and letters a reading holds, each counted each time it is reached (what is shared counts as often as it is met; a slice's spare places count too). A statement '..UptoSaid' is the law's where the arguments, and the package variables that the reading takes, are together of bulk at most 1048576: NARROWER than '..Said'. Prove '..Said' where nothing that the law and all that it calls make is longer than what came in: it says more and counts as full. Else prove '..UptoSaid'. A law counts once. -/
mutual
def uptoBulk {H : Type} : DataW H → Nat
  | .lit (.string bytes) => bytes.length + 1
  | .lit _ => 1
  | .nil => 1
  | .ptr d => uptoBulk d + 1
  | .slice elems spare => uptoBulkAll elems + uptoBulkAll spare + 1
  | .agg parts => uptoBulkAll parts + 1
  | .iface _ d => uptoBulk d + 1
  | .map entries => uptoBulkEntries entries + 1
  | .held _ => 1
def uptoBulkAll {H : Type} : List (DataW H) → Nat
  | [] => 0
  | d :: r => uptoBulk d + uptoBulkAll r
def uptoBulkEntries {H : Type} : List (Lit × DataW H) → Nat
  | [] => 0
  | x :: r => uptoBulkEntry x + uptoBulkEntries r
def uptoBulkEntry {H : Type} : Lit × DataW H → Nat
  | (.string bytes, d) => bytes.length + uptoBulk d + 1
  | (_, d) => uptoBulk d + 1
 end
def uptoSmall : (H : Type) → List (DataW H) → Bool := fun _ ds => decide (uptoBulkAll ds ≤ 1048576)
def OpenSpec.upto (s : _root_.Go.ChangeSpec) : _root_.Go.OpenSpec := { _root_.Go.OpenSpec.ofChange s with cond := some uptoSmall }

/-- 'patchbaylaw1.SlideSends', WHERE WHAT IT READS IS OF BULK AT MOST 1048576: true; the input reads as it did. -/
def slideSendsUptoRow : OpenClaim := { program := "ytfeddgeihpfjfab", sum := "42346cbd6e9f44f680e1a0b542dd55b5f5eab6d651d6c6801eedb591cfbfd662", func := "patchbay/patchbaylaw1.SlideSends", spec := "slideSends", recurses := true, apart := false, narrowed := true }
def SlideSendsUptoSaid : Prop := slideSendsUptoRow.holds Try.pinned (OpenSpec.upto slideSendsSpec)

/-- 'patchbaylaw1.FecSays', WHERE WHAT IT READS IS OF BULK AT MOST 1048576: true; the input reads as it did. -/
def fecSaysUptoRow : OpenClaim := { program := "ytfeddgeihpfjfab", sum := "42346cbd6e9f44f680e1a0b542dd55b5f5eab6d651d6c6801eedb591cfbfd662", func := "patchbay/patchbaylaw1.FecSays", spec := "fecSays", recurses := true, apart := false, narrowed := true }
def FecSaysUptoSaid : Prop := fecSaysUptoRow.holds Try.pinned (OpenSpec.upto fecSaysSpec)

/-- 'patchbaylaw1.BridgePlays', WHERE WHAT IT READS IS OF BULK AT MOST 1048576: true; the input reads as it did. -/
def bridgePlaysUptoRow : OpenClaim := { program := "ytfeddgeihpfjfab", sum := "42346cbd6e9f44f680e1a0b542dd55b5f5eab6d651d6c6801eedb591cfbfd662", func := "patchbay/patchbaylaw1.BridgePlays", spec := "bridgePlays", apart := false, narrowed := true }
def BridgePlaysUptoSaid : Prop := bridgePlaysUptoRow.holds Try.pinned (OpenSpec.upto bridgePlaysSpec)

/-- 'patchbaylaw1.ClockSays', WHERE WHAT IT READS IS OF BULK AT MOST 1048576: true; the input reads as it did. -/
def clockSaysUptoRow : OpenClaim := { program := "ytfeddgeihpfjfab", sum := "42346cbd6e9f44f680e1a0b542dd55b5f5eab6d651d6c6801eedb591cfbfd662", func := "patchbay/patchbaylaw1.ClockSays", spec := "clockSays", inPlace := ["internal/bytealg.CountString", "internal/bytealg.IndexByteString", "internal/bytealg.IndexString", "sync/atomic.LoadUint32", "(*internal/sync.Mutex).Lock", "internal/race.Disable", "sync/atomic.CompareAndSwapInt32", "internal/race.Enable", "internal/race.Acquire", "(*internal/sync.Mutex).lockSlow", "internal/sync.runtime_canSpin", "internal/sync.runtime_doSpin", "internal/sync.throw", "internal/sync.runtime_nanotime", "internal/sync.runtime_SemacquireMutex", "sync/atomic.AddInt32", "(*internal/sync.Mutex).Unlock", "internal/race.ReleaseMerge", "(*internal/sync.Mutex).unlockSlow", "internal/sync.fatal", "internal/sync.runtime_Semrelease", "sync/atomic.StoreUint32"], unfollowed := true, recurses := true, named := ["internal/bytealg.MaxLen"], apart := false, narrowed := true }
def ClockSaysUptoSaid : Prop := clockSaysUptoRow.holds Try.pinned (OpenSpec.upto clockSaysSpec)

/-- 'patchbaylaw1.SpanSays', WHERE WHAT IT READS IS OF BULK AT MOST 1048576: true; the input reads as it did. -/
def spanSaysUptoRow : OpenClaim := { program := "ytfeddgeihpfjfab", sum := "42346cbd6e9f44f680e1a0b542dd55b5f5eab6d651d6c6801eedb591cfbfd662", func := "patchbay/patchbaylaw1.SpanSays", spec := "spanSays", unfollowed := true, recurses := true, apart := false, narrowed := true }
def SpanSaysUptoSaid : Prop := spanSaysUptoRow.holds Try.pinned (OpenSpec.upto spanSaysSpec)

/-- 'patchbaylaw1.SpanSettles', WHERE WHAT IT READS IS OF BULK AT MOST 1048576: true; the input reads as it did. -/
def spanSettlesUptoRow : OpenClaim := { program := "ytfeddgeihpfjfab", sum := "42346cbd6e9f44f680e1a0b542dd55b5f5eab6d651d6c6801eedb591cfbfd662", func := "patchbay/patchbaylaw1.SpanSettles", spec := "spanSettles", unfollowed := true, recurses := true, apart := false, narrowed := true }
def SpanSettlesUptoSaid : Prop := spanSettlesUptoRow.holds Try.pinned (OpenSpec.upto spanSettlesSpec)

/-- 'patchbaytop.TopSwitch', WHERE WHAT IT READS IS OF BULK AT MOST 1048576: true; the input reads as it did. -/
def topSwitchUptoRow : OpenClaim := { program := "ytfeddgeihpfjfab", sum := "42346cbd6e9f44f680e1a0b542dd55b5f5eab6d651d6c6801eedb591cfbfd662", func := "patchbay/patchbaytop.TopSwitch", spec := "topSwitch", unfollowed := true, recurses := true, apart := false, narrowed := true }
def TopSwitchUptoSaid : Prop := topSwitchUptoRow.holds Try.pinned (OpenSpec.upto topSwitchSpec)

end Rows
end Go.Proofs.Ytfeddgeihpfjfab
