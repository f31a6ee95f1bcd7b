/-
  No cell of these rows narrows 'for every input' (looked for: loops, veiled, ifaces, maps, wideKeys, modest, calm, conditions, laid).
  DERIVED. THE GIVEN ROWS OF THIS SEAT. 12 by the template 'for every input the law returns true; each argument reads behind the call as it read before'; 0 by the template 'total and deterministic' (their statements: YtkajfabmdljffaaTotals.lean).
  GIVEN WITH THE SEED: the statements are not yours to turn. If you find one false, say at which input.
  Laid BY PROGRAM, IN A SANDBOX (cutbox-rows.mjs): the forced cells as the released guide's own fill.sh prints them over the translation 7dfe4a6866944aad… (all of the seat's roots in one cut). By AI agents, Wed Nov 11 2026. No macro, syntax, notation, axiom, sorry.
-/
import Derived.Test.YtkajfabmdljffaaChecked
import GoSem.Claim
import GoSem.ClaimJoined
import GoSem.ClaimMapViews
import Derived.JoinedTies
import Derived.KernelRfl
namespace Go.Proofs.Ytkajfabmdljffaa
/- THE CELL 'sum', in the pinned program and in every row, IS THE sha256 OF THE DUMP (.gsa) THAT YtkajfabmdljffaaProg.lean LOADS. Nothing in Lean hashes anything: it is a label: what it is worth is what the hold of that sum in a sandbox is worth. -/
noncomputable def Try.pinned : Pinned := { name := "ytkajfabmdljffaa", sum := "7dfe4a6866944aad8eb79572d4d16593a1ef29d8ad4e938cf3f317bd2298293f", checked := Try.checked }
namespace Rows
def none {H : Type} : Left H := { results := [], args := [] }

/-- 'praxinoscopelaw10.QuantTells': WHATEVER THE INPUT: true; the input reads as it did. -/
def quantTellsSpec : ChangeSpec := { name := "quantTells", fn := fun _ => fun
  | [d1, d2, d3, d4] => { results := [.lit (.bool true)], args := [d1, d2, d3, d4] }
  | _ => none }
def quantTellsRow : OpenClaim := { program := "ytkajfabmdljffaa", sum := "7dfe4a6866944aad8eb79572d4d16593a1ef29d8ad4e938cf3f317bd2298293f", func := "praxinoscope/praxinoscopelaw10.QuantTells", spec := "quantTells", unfollowed := true, recurses := true, apart := false }
def QuantTellsSaid : Prop := quantTellsRow.holds Try.pinned (OpenSpec.ofChange quantTellsSpec)

/-- ITS FALSE NEIGHBOUR: 'it returns false'. Refute it at one input. -/
def quantTellsWrong : ChangeSpec := { name := "quantTells", fn := fun _ => fun
  | [d1, d2, d3, d4] => { results := [.lit (.bool false)], args := [d1, d2, d3, d4] }
  | _ => none }
def QuantTellsWrongFalsely : Prop := quantTellsRow.holds Try.pinned (OpenSpec.ofChange quantTellsWrong)

/-- 'praxinoscopelaw10.QuantKnown': WHATEVER THE INPUT: true; the input reads as it did. -/
def quantKnownSpec : ChangeSpec := { name := "quantKnown", fn := fun _ => fun
  | [] => { results := [.lit (.bool true)], args := [] }
  | _ => none }
def quantKnownRow : OpenClaim := { program := "ytkajfabmdljffaa", sum := "7dfe4a6866944aad8eb79572d4d16593a1ef29d8ad4e938cf3f317bd2298293f", func := "praxinoscope/praxinoscopelaw10.QuantKnown", spec := "quantKnown", unfollowed := true, recurses := true, apart := false }
def QuantKnownSaid : Prop := quantKnownRow.holds Try.pinned (OpenSpec.ofChange quantKnownSpec)

/-- ITS FALSE NEIGHBOUR: 'it returns false'. Refute it at one input. -/
def quantKnownWrong : ChangeSpec := { name := "quantKnown", fn := fun _ => fun
  | [] => { results := [.lit (.bool false)], args := [] }
  | _ => none }
def QuantKnownWrongFalsely : Prop := quantKnownRow.holds Try.pinned (OpenSpec.ofChange quantKnownWrong)

/-- 'praxinoscopelaw10.QuantOdd': WHATEVER THE INPUT: true; the input reads as it did. -/
def quantOddSpec : ChangeSpec := { name := "quantOdd", fn := fun _ => fun
  | [d1, d2] => { results := [.lit (.bool true)], args := [d1, d2] }
  | _ => none }
def quantOddRow : OpenClaim := { program := "ytkajfabmdljffaa", sum := "7dfe4a6866944aad8eb79572d4d16593a1ef29d8ad4e938cf3f317bd2298293f", func := "praxinoscope/praxinoscopelaw10.QuantOdd", spec := "quantOdd", unfollowed := true, recurses := true, apart := false }
def QuantOddSaid : Prop := quantOddRow.holds Try.pinned (OpenSpec.ofChange quantOddSpec)

/-- ITS FALSE NEIGHBOUR: 'it returns false'. Refute it at one input. -/
def quantOddWrong : ChangeSpec := { name := "quantOdd", fn := fun _ => fun
  | [d1, d2] => { results := [.lit (.bool false)], args := [d1, d2] }
  | _ => none }
def QuantOddWrongFalsely : Prop := quantOddRow.holds Try.pinned (OpenSpec.ofChange quantOddWrong)

/-- 'praxinoscopelaw10.QuantGrows': WHATEVER THE INPUT: true; the input reads as it did. -/
def quantGrowsSpec : ChangeSpec := { name := "quantGrows", fn := fun _ => fun
  | [d1, d2] => { results := [.lit (.bool true)], args := [d1, d2] }
  | _ => none }
def quantGrowsRow : OpenClaim := { program := "ytkajfabmdljffaa", sum := "7dfe4a6866944aad8eb79572d4d16593a1ef29d8ad4e938cf3f317bd2298293f", func := "praxinoscope/praxinoscopelaw10.QuantGrows", spec := "quantGrows", unfollowed := true, recurses := true, apart := false }
def QuantGrowsSaid : Prop := quantGrowsRow.holds Try.pinned (OpenSpec.ofChange quantGrowsSpec)

/-- ITS FALSE NEIGHBOUR: 'it returns false'. Refute it at one input. -/
def quantGrowsWrong : ChangeSpec := { name := "quantGrows", fn := fun _ => fun
  | [d1, d2] => { results := [.lit (.bool false)], args := [d1, d2] }
  | _ => none }
def QuantGrowsWrongFalsely : Prop := quantGrowsRow.holds Try.pinned (OpenSpec.ofChange quantGrowsWrong)

/-- 'praxinoscopelaw10.QuantNear': WHATEVER THE INPUT: true; the input reads as it did. -/
def quantNearSpec : ChangeSpec := { name := "quantNear", fn := fun _ => fun
  | [d1, d2, d3] => { results := [.lit (.bool true)], args := [d1, d2, d3] }
  | _ => none }
def quantNearRow : OpenClaim := { program := "ytkajfabmdljffaa", sum := "7dfe4a6866944aad8eb79572d4d16593a1ef29d8ad4e938cf3f317bd2298293f", func := "praxinoscope/praxinoscopelaw10.QuantNear", spec := "quantNear", unfollowed := true, recurses := true, apart := false }
def QuantNearSaid : Prop := quantNearRow.holds Try.pinned (OpenSpec.ofChange quantNearSpec)

/-- ITS FALSE NEIGHBOUR: 'it returns false'. Refute it at one input. -/
def quantNearWrong : ChangeSpec := { name := "quantNear", fn := fun _ => fun
  | [d1, d2, d3] => { results := [.lit (.bool false)], args := [d1, d2, d3] }
  | _ => none }
def QuantNearWrongFalsely : Prop := quantNearRow.holds Try.pinned (OpenSpec.ofChange quantNearWrong)

/-- 'praxinoscopelaw10.QuantBlocks': WHATEVER THE INPUT: true; the input reads as it did. -/
def quantBlocksSpec : ChangeSpec := { name := "quantBlocks", fn := fun _ => fun
  | [d1, d2, d3] => { results := [.lit (.bool true)], args := [d1, d2, d3] }
  | _ => none }
def quantBlocksRow : OpenClaim := { program := "ytkajfabmdljffaa", sum := "7dfe4a6866944aad8eb79572d4d16593a1ef29d8ad4e938cf3f317bd2298293f", func := "praxinoscope/praxinoscopelaw10.QuantBlocks", spec := "quantBlocks", unfollowed := true, recurses := true, apart := false }
def QuantBlocksSaid : Prop := quantBlocksRow.holds Try.pinned (OpenSpec.ofChange quantBlocksSpec)

/-- ITS FALSE NEIGHBOUR: 'it returns false'. Refute it at one input. -/
def quantBlocksWrong : ChangeSpec := { name := "quantBlocks", fn := fun _ => fun
  | [d1, d2, d3] => { results := [.lit (.bool false)], args := [d1, d2, d3] }
  | _ => none }
def QuantBlocksWrongFalsely : Prop := quantBlocksRow.holds Try.pinned (OpenSpec.ofChange quantBlocksWrong)

/-- 'praxinoscopelaw10.QuantSlots': WHATEVER THE INPUT: true; the input reads as it did. -/
def quantSlotsSpec : ChangeSpec := { name := "quantSlots", fn := fun _ => fun
  | [d1, d2, d3, d4, d5] => { results := [.lit (.bool true)], args := [d1, d2, d3, d4, d5] }
  | _ => none }
def quantSlotsRow : OpenClaim := { program := "ytkajfabmdljffaa", sum := "7dfe4a6866944aad8eb79572d4d16593a1ef29d8ad4e938cf3f317bd2298293f", func := "praxinoscope/praxinoscopelaw10.QuantSlots", spec := "quantSlots", unfollowed := true, recurses := true, apart := false }
def QuantSlotsSaid : Prop := quantSlotsRow.holds Try.pinned (OpenSpec.ofChange quantSlotsSpec)

/-- ITS FALSE NEIGHBOUR: 'it returns false'. Refute it at one input. -/
def quantSlotsWrong : ChangeSpec := { name := "quantSlots", fn := fun _ => fun
  | [d1, d2, d3, d4, d5] => { results := [.lit (.bool false)], args := [d1, d2, d3, d4, d5] }
  | _ => none }
def QuantSlotsWrongFalsely : Prop := quantSlotsRow.holds Try.pinned (OpenSpec.ofChange quantSlotsWrong)

/-- 'praxinoscopelaw15.LoopFilters': WHATEVER THE INPUT: true; the input reads as it did. -/
def loopFiltersSpec : ChangeSpec := { name := "loopFilters", fn := fun _ => fun
  | [d1, d2] => { results := [.lit (.bool true)], args := [d1, d2] }
  | _ => none }
def loopFiltersRow : OpenClaim := { program := "ytkajfabmdljffaa", sum := "7dfe4a6866944aad8eb79572d4d16593a1ef29d8ad4e938cf3f317bd2298293f", func := "praxinoscope/praxinoscopelaw15.LoopFilters", spec := "loopFilters", apart := false }
def LoopFiltersSaid : Prop := loopFiltersRow.holds Try.pinned (OpenSpec.ofChange loopFiltersSpec)

/-- ITS FALSE NEIGHBOUR: 'it returns false'. Refute it at one input. -/
def loopFiltersWrong : ChangeSpec := { name := "loopFilters", fn := fun _ => fun
  | [d1, d2] => { results := [.lit (.bool false)], args := [d1, d2] }
  | _ => none }
def LoopFiltersWrongFalsely : Prop := loopFiltersRow.holds Try.pinned (OpenSpec.ofChange loopFiltersWrong)

/-- 'praxinoscopelaw15.LoopKnown': WHATEVER THE INPUT: true; the input reads as it did. -/
def loopKnownSpec : ChangeSpec := { name := "loopKnown", fn := fun _ => fun
  | [] => { results := [.lit (.bool true)], args := [] }
  | _ => none }
def loopKnownRow : OpenClaim := { program := "ytkajfabmdljffaa", sum := "7dfe4a6866944aad8eb79572d4d16593a1ef29d8ad4e938cf3f317bd2298293f", func := "praxinoscope/praxinoscopelaw15.LoopKnown", spec := "loopKnown", apart := false }
def LoopKnownSaid : Prop := loopKnownRow.holds Try.pinned (OpenSpec.ofChange loopKnownSpec)

/-- ITS FALSE NEIGHBOUR: 'it returns false'. Refute it at one input. -/
def loopKnownWrong : ChangeSpec := { name := "loopKnown", fn := fun _ => fun
  | [] => { results := [.lit (.bool false)], args := [] }
  | _ => none }
def LoopKnownWrongFalsely : Prop := loopKnownRow.holds Try.pinned (OpenSpec.ofChange loopKnownWrong)

/-- 'praxinoscopelaw15.LoopTwice': WHATEVER THE INPUT: true; the input reads as it did. -/
def loopTwiceSpec : ChangeSpec := { name := "loopTwice", fn := fun _ => fun
  | [d] => { results := [.lit (.bool true)], args := [d] }
  | _ => none }
def loopTwiceRow : OpenClaim := { program := "ytkajfabmdljffaa", sum := "7dfe4a6866944aad8eb79572d4d16593a1ef29d8ad4e938cf3f317bd2298293f", func := "praxinoscope/praxinoscopelaw15.LoopTwice", spec := "loopTwice", apart := false }
def LoopTwiceSaid : Prop := loopTwiceRow.holds Try.pinned (OpenSpec.ofChange loopTwiceSpec)

/-- ITS FALSE NEIGHBOUR: 'it returns false'. Refute it at one input. -/
def loopTwiceWrong : ChangeSpec := { name := "loopTwice", fn := fun _ => fun
  | [d] => { results := [.lit (.bool false)], args := [d] }
  | _ => none }
def LoopTwiceWrongFalsely : Prop := loopTwiceRow.holds Try.pinned (OpenSpec.ofChange loopTwiceWrong)

/-- 'praxinoscopelaw15.LoopBetween': WHATEVER THE INPUT: true; the input reads as it did. -/
def loopBetweenSpec : ChangeSpec := { name := "loopBetween", fn := fun _ => fun
  | [d] => { results := [.lit (.bool true)], args := [d] }
  | _ => none }
def loopBetweenRow : OpenClaim := { program := "ytkajfabmdljffaa", sum := "7dfe4a6866944aad8eb79572d4d16593a1ef29d8ad4e938cf3f317bd2298293f", func := "praxinoscope/praxinoscopelaw15.LoopBetween", spec := "loopBetween", apart := false }
def LoopBetweenSaid : Prop := loopBetweenRow.holds Try.pinned (OpenSpec.ofChange loopBetweenSpec)

/-- ITS FALSE NEIGHBOUR: 'it returns false'. Refute it at one input. -/
def loopBetweenWrong : ChangeSpec := { name := "loopBetween", fn := fun _ => fun
  | [d] => { results := [.lit (.bool false)], args := [d] }
  | _ => none }
def LoopBetweenWrongFalsely : Prop := loopBetweenRow.holds Try.pinned (OpenSpec.ofChange loopBetweenWrong)

/-- 'praxinoscopelaw15.LoopTurned': WHATEVER THE INPUT: true; the input reads as it did. -/
def loopTurnedSpec : ChangeSpec := { name := "loopTurned", fn := fun _ => fun
  | [d1, d2] => { results := [.lit (.bool true)], args := [d1, d2] }
  | _ => none }
def loopTurnedRow : OpenClaim := { program := "ytkajfabmdljffaa", sum := "7dfe4a6866944aad8eb79572d4d16593a1ef29d8ad4e938cf3f317bd2298293f", func := "praxinoscope/praxinoscopelaw15.LoopTurned", spec := "loopTurned", apart := false }
def LoopTurnedSaid : Prop := loopTurnedRow.holds Try.pinned (OpenSpec.ofChange loopTurnedSpec)

/-- ITS FALSE NEIGHBOUR: 'it returns false'. Refute it at one input. -/
def loopTurnedWrong : ChangeSpec := { name := "loopTurned", fn := fun _ => fun
  | [d1, d2] => { results := [.lit (.bool false)], args := [d1, d2] }
  | _ => none }
def LoopTurnedWrongFalsely : Prop := loopTurnedRow.holds Try.pinned (OpenSpec.ofChange loopTurnedWrong)

/- THE SECOND FORM. 'bulk': how many values and letters a reading holds, each counted each time it is reached (what is shared counts as often as it is met; a slice's spare places count too). A statement '..UptoSaid' is the law's where the arguments, and the package variables that the reading takes, are together of bulk at most 1048576: NARROWER than '..Said'. Prove '..Said' where nothing that the law and all that it calls make is longer than what came in: it says more and counts as full. Else prove '..UptoSaid'. A law counts once. -/
mutual
def uptoBulk {H : Type} : DataW H → Nat
  | .lit (.string bytes) => bytes.length + 1
  | .lit _ => 1
  | .nil => 1
  | .ptr d => uptoBulk d + 1
  | .slice elems spare => uptoBulkAll elems + uptoBulkAll spare + 1
  | .agg parts => uptoBulkAll parts + 1
  | .iface _ d => uptoBulk d + 1
  | .map entries => uptoBulkEntries entries + 1
  | .held _ => 1
def uptoBulkAll {H : Type} : List (DataW H) → Nat
  | [] => 0
  | d :: r => uptoBulk d + uptoBulkAll r
def uptoBulkEntries {H : Type} : List (Lit × DataW H) → Nat
  | [] => 0
  | x :: r => uptoBulkEntry x + uptoBulkEntries r
def uptoBulkEntry {H : Type} : Lit × DataW H → Nat
  | (.string bytes, d) => bytes.length + uptoBulk d + 1
  | (_, d) => uptoBulk d + 1
 end
def uptoSmall : (H : Type) → List (DataW H) → Bool := fun _ ds => decide (uptoBulkAll ds ≤ 1048576)
def OpenSpec.upto (s : _root_.Go.ChangeSpec) : _root_.Go.OpenSpec := { _root_.Go.OpenSpec.ofChange s with cond := some uptoSmall }

/-- 'praxinoscopelaw10.QuantTells', WHERE WHAT IT READS IS OF BULK AT MOST 1048576: true; the input reads as it did. -/
def quantTellsUptoRow : OpenClaim := { program := "ytkajfabmdljffaa", sum := "7dfe4a6866944aad8eb79572d4d16593a1ef29d8ad4e938cf3f317bd2298293f", func := "praxinoscope/praxinoscopelaw10.QuantTells", spec := "quantTells", unfollowed := true, recurses := true, apart := false, narrowed := true }
def QuantTellsUptoSaid : Prop := quantTellsUptoRow.holds Try.pinned (OpenSpec.upto quantTellsSpec)

/-- 'praxinoscopelaw10.QuantKnown', WHERE WHAT IT READS IS OF BULK AT MOST 1048576: true; the input reads as it did. -/
def quantKnownUptoRow : OpenClaim := { program := "ytkajfabmdljffaa", sum := "7dfe4a6866944aad8eb79572d4d16593a1ef29d8ad4e938cf3f317bd2298293f", func := "praxinoscope/praxinoscopelaw10.QuantKnown", spec := "quantKnown", unfollowed := true, recurses := true, apart := false, narrowed := true }
def QuantKnownUptoSaid : Prop := quantKnownUptoRow.holds Try.pinned (OpenSpec.upto quantKnownSpec)

/-- 'praxinoscopelaw10.QuantOdd', WHERE WHAT IT READS IS OF BULK AT MOST 1048576: true; the input reads as it did. -/
def quantOddUptoRow : OpenClaim := { program := "ytkajfabmdljffaa", sum := "7dfe4a6866944aad8eb79572d4d16593a1ef29d8ad4e938cf3f317bd2298293f", func := "praxinoscope/praxinoscopelaw10.QuantOdd", spec := "quantOdd", unfollowed := true, recurses := true, apart := false, narrowed := true }
def QuantOddUptoSaid : Prop := quantOddUptoRow.holds Try.pinned (OpenSpec.upto quantOddSpec)

/-- 'praxinoscopelaw10.QuantGrows', WHERE WHAT IT READS IS OF BULK AT MOST 1048576: true; the input reads as it did. -/
def quantGrowsUptoRow : OpenClaim := { program := "ytkajfabmdljffaa", sum := "7dfe4a6866944aad8eb79572d4d16593a1ef29d8ad4e938cf3f317bd2298293f", func := "praxinoscope/praxinoscopelaw10.QuantGrows", spec := "quantGrows", unfollowed := true, recurses := true, apart := false, narrowed := true }
def QuantGrowsUptoSaid : Prop := quantGrowsUptoRow.holds Try.pinned (OpenSpec.upto quantGrowsSpec)

/-- 'praxinoscopelaw10.QuantNear', WHERE WHAT IT READS IS OF BULK AT MOST 1048576: true; the input reads as it did. -/
def quantNearUptoRow : OpenClaim := { program := "ytkajfabmdljffaa", sum := "7dfe4a6866944aad8eb79572d4d16593a1ef29d8ad4e938cf3f317bd2298293f", func := "praxinoscope/praxinoscopelaw10.QuantNear", spec := "quantNear", unfollowed := true, recurses := true, apart := false, narrowed := true }
def QuantNearUptoSaid : Prop := quantNearUptoRow.holds Try.pinned (OpenSpec.upto quantNearSpec)

/-- 'praxinoscopelaw10.QuantBlocks', WHERE WHAT IT READS IS OF BULK AT MOST 1048576: true; the input reads as it did. -/
def quantBlocksUptoRow : OpenClaim := { program := "ytkajfabmdljffaa", sum := "7dfe4a6866944aad8eb79572d4d16593a1ef29d8ad4e938cf3f317bd2298293f", func := "praxinoscope/praxinoscopelaw10.QuantBlocks", spec := "quantBlocks", unfollowed := true, recurses := true, apart := false, narrowed := true }
def QuantBlocksUptoSaid : Prop := quantBlocksUptoRow.holds Try.pinned (OpenSpec.upto quantBlocksSpec)

/-- 'praxinoscopelaw10.QuantSlots', WHERE WHAT IT READS IS OF BULK AT MOST 1048576: true; the input reads as it did. -/
def quantSlotsUptoRow : OpenClaim := { program := "ytkajfabmdljffaa", sum := "7dfe4a6866944aad8eb79572d4d16593a1ef29d8ad4e938cf3f317bd2298293f", func := "praxinoscope/praxinoscopelaw10.QuantSlots", spec := "quantSlots", unfollowed := true, recurses := true, apart := false, narrowed := true }
def QuantSlotsUptoSaid : Prop := quantSlotsUptoRow.holds Try.pinned (OpenSpec.upto quantSlotsSpec)

/-- 'praxinoscopelaw15.LoopFilters', WHERE WHAT IT READS IS OF BULK AT MOST 1048576: true; the input reads as it did. -/
def loopFiltersUptoRow : OpenClaim := { program := "ytkajfabmdljffaa", sum := "7dfe4a6866944aad8eb79572d4d16593a1ef29d8ad4e938cf3f317bd2298293f", func := "praxinoscope/praxinoscopelaw15.LoopFilters", spec := "loopFilters", apart := false, narrowed := true }
def LoopFiltersUptoSaid : Prop := loopFiltersUptoRow.holds Try.pinned (OpenSpec.upto loopFiltersSpec)

/-- 'praxinoscopelaw15.LoopKnown', WHERE WHAT IT READS IS OF BULK AT MOST 1048576: true; the input reads as it did. -/
def loopKnownUptoRow : OpenClaim := { program := "ytkajfabmdljffaa", sum := "7dfe4a6866944aad8eb79572d4d16593a1ef29d8ad4e938cf3f317bd2298293f", func := "praxinoscope/praxinoscopelaw15.LoopKnown", spec := "loopKnown", apart := false, narrowed := true }
def LoopKnownUptoSaid : Prop := loopKnownUptoRow.holds Try.pinned (OpenSpec.upto loopKnownSpec)

/-- 'praxinoscopelaw15.LoopTwice', WHERE WHAT IT READS IS OF BULK AT MOST 1048576: true; the input reads as it did. -/
def loopTwiceUptoRow : OpenClaim := { program := "ytkajfabmdljffaa", sum := "7dfe4a6866944aad8eb79572d4d16593a1ef29d8ad4e938cf3f317bd2298293f", func := "praxinoscope/praxinoscopelaw15.LoopTwice", spec := "loopTwice", apart := false, narrowed := true }
def LoopTwiceUptoSaid : Prop := loopTwiceUptoRow.holds Try.pinned (OpenSpec.upto loopTwiceSpec)

/-- 'praxinoscopelaw15.LoopBetween', WHERE WHAT IT READS IS OF BULK AT MOST 1048576: true; the input reads as it did. -/
def loopBetweenUptoRow : OpenClaim := { program := "ytkajfabmdljffaa", sum := "7dfe4a6866944aad8eb79572d4d16593a1ef29d8ad4e938cf3f317bd2298293f", func := "praxinoscope/praxinoscopelaw15.LoopBetween", spec := "loopBetween", apart := false, narrowed := true }
def LoopBetweenUptoSaid : Prop := loopBetweenUptoRow.holds Try.pinned (OpenSpec.upto loopBetweenSpec)

/-- 'praxinoscopelaw15.LoopTurned', WHERE WHAT IT READS IS OF BULK AT MOST 1048576: true; the input reads as it did. -/
def loopTurnedUptoRow : OpenClaim := { program := "ytkajfabmdljffaa", sum := "7dfe4a6866944aad8eb79572d4d16593a1ef29d8ad4e938cf3f317bd2298293f", func := "praxinoscope/praxinoscopelaw15.LoopTurned", spec := "loopTurned", apart := false, narrowed := true }
def LoopTurnedUptoSaid : Prop := loopTurnedUptoRow.holds Try.pinned (OpenSpec.upto loopTurnedSpec)

end Rows
end Go.Proofs.Ytkajfabmdljffaa
