/-
  No cell of these rows narrows 'for every input' (looked for: loops, veiled, ifaces, maps, wideKeys, modest, calm, conditions, laid).
  DERIVED. THE GIVEN ROWS OF THIS SEAT. 7 by the template 'for every input the law returns true; each argument reads behind the call as it read before'; 0 by the template 'total and deterministic' (their statements: YtbmglemjfodfhaaGreatTotals.lean).
  GIVEN WITH THE SEED: the statements are not yours to turn. If you find one false, say at which input.
  Laid BY PROGRAM, IN A SANDBOX (cutbox-rows.mjs): the forced cells as the released guide's own fill.sh prints them over the translation 050224c51a61309f… (all of the seat's roots in one cut). By AI agents, Wed Nov 11 2026. No macro, syntax, notation, axiom, sorry.
-/
import Derived.Test.YtbmglemjfodfhaaGreatChecked
import GoSem.Claim
import GoSem.ClaimJoined
import GoSem.ClaimMapViews
import Derived.JoinedTies
import Derived.KernelRfl
namespace Go.Proofs.YtbmglemjfodfhaaGreat
/- THE CELL 'sum', in the pinned program and in every row, IS THE sha256 OF THE DUMP (.gsa) THAT YtbmglemjfodfhaaGreatProg.lean LOADS. Nothing in Lean hashes anything: it is a label: what it is worth is what the hold of that sum in a sandbox is worth. -/
noncomputable def Tryz.pinned : Pinned := { name := "ytbmglemjfodfhaagreat", sum := "050224c51a61309fc2b6a7c9dcdabef49b911f7fcd450cdbea951dfe44c7251d", checked := Tryz.checked }
namespace Rows
def none {H : Type} : Left H := { results := [], args := [] }

/-- 'praxinoscopelaw20.BuildOnly': WHATEVER THE INPUT: true; the input reads as it did. -/
def buildOnlySpec : ChangeSpec := { name := "buildOnly", fn := fun _ => fun
  | [d1, d2, d3, d4, d5, d6] => { results := [.lit (.bool true)], args := [d1, d2, d3, d4, d5, d6] }
  | _ => none }
def buildOnlyRow : OpenClaim := { program := "ytbmglemjfodfhaagreat", sum := "050224c51a61309fc2b6a7c9dcdabef49b911f7fcd450cdbea951dfe44c7251d", func := "praxinoscope/praxinoscopelaw20.BuildOnly", spec := "buildOnly", inPlace := ["internal/bytealg.MakeNoZero"], unfollowed := true, recurses := true, apart := false }
def BuildOnlySaid : Prop := buildOnlyRow.holds Tryz.pinned (OpenSpec.ofChange buildOnlySpec)

/-- ITS FALSE NEIGHBOUR: 'it returns false'. Refute it at one input. -/
def buildOnlyWrong : ChangeSpec := { name := "buildOnly", fn := fun _ => fun
  | [d1, d2, d3, d4, d5, d6] => { results := [.lit (.bool false)], args := [d1, d2, d3, d4, d5, d6] }
  | _ => none }
def BuildOnlyWrongFalsely : Prop := buildOnlyRow.holds Tryz.pinned (OpenSpec.ofChange buildOnlyWrong)

/-- 'praxinoscopelaw20.BuildMacros': WHATEVER THE INPUT: true; the input reads as it did. -/
def buildMacrosSpec : ChangeSpec := { name := "buildMacros", fn := fun _ => fun
  | [d1, d2, d3, d4] => { results := [.lit (.bool true)], args := [d1, d2, d3, d4] }
  | _ => none }
def buildMacrosRow : OpenClaim := { program := "ytbmglemjfodfhaagreat", sum := "050224c51a61309fc2b6a7c9dcdabef49b911f7fcd450cdbea951dfe44c7251d", func := "praxinoscope/praxinoscopelaw20.BuildMacros", spec := "buildMacros", inPlace := ["internal/bytealg.MakeNoZero"], unfollowed := true, recurses := true, apart := false }
def BuildMacrosSaid : Prop := buildMacrosRow.holds Tryz.pinned (OpenSpec.ofChange buildMacrosSpec)

/-- ITS FALSE NEIGHBOUR: 'it returns false'. Refute it at one input. -/
def buildMacrosWrong : ChangeSpec := { name := "buildMacros", fn := fun _ => fun
  | [d1, d2, d3, d4] => { results := [.lit (.bool false)], args := [d1, d2, d3, d4] }
  | _ => none }
def BuildMacrosWrongFalsely : Prop := buildMacrosRow.holds Tryz.pinned (OpenSpec.ofChange buildMacrosWrong)

/-- 'praxinoscopelaw20.BuildStill': WHATEVER THE INPUT: true; the input reads as it did. -/
def buildStillSpec : ChangeSpec := { name := "buildStill", fn := fun _ => fun
  | [d1, d2, d3, d4, d5, d6, d7] => { results := [.lit (.bool true)], args := [d1, d2, d3, d4, d5, d6, d7] }
  | _ => none }
def buildStillRow : OpenClaim := { program := "ytbmglemjfodfhaagreat", sum := "050224c51a61309fc2b6a7c9dcdabef49b911f7fcd450cdbea951dfe44c7251d", func := "praxinoscope/praxinoscopelaw20.BuildStill", spec := "buildStill", inPlace := ["internal/bytealg.MakeNoZero"], unfollowed := true, recurses := true, apart := false }
def BuildStillSaid : Prop := buildStillRow.holds Tryz.pinned (OpenSpec.ofChange buildStillSpec)

/-- ITS FALSE NEIGHBOUR: 'it returns false'. Refute it at one input. -/
def buildStillWrong : ChangeSpec := { name := "buildStill", fn := fun _ => fun
  | [d1, d2, d3, d4, d5, d6, d7] => { results := [.lit (.bool false)], args := [d1, d2, d3, d4, d5, d6, d7] }
  | _ => none }
def BuildStillWrongFalsely : Prop := buildStillRow.holds Tryz.pinned (OpenSpec.ofChange buildStillWrong)

/-- 'praxinoscopelaw20.BuildGroups': WHATEVER THE INPUT: true; the input reads as it did. -/
def buildGroupsSpec : ChangeSpec := { name := "buildGroups", fn := fun _ => fun
  | [d1, d2, d3] => { results := [.lit (.bool true)], args := [d1, d2, d3] }
  | _ => none }
def buildGroupsRow : OpenClaim := { program := "ytbmglemjfodfhaagreat", sum := "050224c51a61309fc2b6a7c9dcdabef49b911f7fcd450cdbea951dfe44c7251d", func := "praxinoscope/praxinoscopelaw20.BuildGroups", spec := "buildGroups", inPlace := ["internal/bytealg.MakeNoZero"], unfollowed := true, recurses := true, apart := false }
def BuildGroupsSaid : Prop := buildGroupsRow.holds Tryz.pinned (OpenSpec.ofChange buildGroupsSpec)

/-- ITS FALSE NEIGHBOUR: 'it returns false'. Refute it at one input. -/
def buildGroupsWrong : ChangeSpec := { name := "buildGroups", fn := fun _ => fun
  | [d1, d2, d3] => { results := [.lit (.bool false)], args := [d1, d2, d3] }
  | _ => none }
def BuildGroupsWrongFalsely : Prop := buildGroupsRow.holds Tryz.pinned (OpenSpec.ofChange buildGroupsWrong)

/-- 'praxinoscopelaw20.BuildKnown': WHATEVER THE INPUT: true; the input reads as it did. -/
def buildKnownSpec : ChangeSpec := { name := "buildKnown", fn := fun _ => fun
  | [] => { results := [.lit (.bool true)], args := [] }
  | _ => none }
def buildKnownRow : OpenClaim := { program := "ytbmglemjfodfhaagreat", sum := "050224c51a61309fc2b6a7c9dcdabef49b911f7fcd450cdbea951dfe44c7251d", func := "praxinoscope/praxinoscopelaw20.BuildKnown", spec := "buildKnown", inPlace := ["internal/bytealg.MakeNoZero"], unfollowed := true, recurses := true, apart := false }
def BuildKnownSaid : Prop := buildKnownRow.holds Tryz.pinned (OpenSpec.ofChange buildKnownSpec)

/-- ITS FALSE NEIGHBOUR: 'it returns false'. Refute it at one input. -/
def buildKnownWrong : ChangeSpec := { name := "buildKnown", fn := fun _ => fun
  | [] => { results := [.lit (.bool false)], args := [] }
  | _ => none }
def BuildKnownWrongFalsely : Prop := buildKnownRow.holds Tryz.pinned (OpenSpec.ofChange buildKnownWrong)

/-- 'praxinoscopelaw20.BuildIntra': WHATEVER THE INPUT: true; the input reads as it did. -/
def buildIntraSpec : ChangeSpec := { name := "buildIntra", fn := fun _ => fun
  | [d1, d2, d3, d4, d5, d6, d7, d8] => { results := [.lit (.bool true)], args := [d1, d2, d3, d4, d5, d6, d7, d8] }
  | _ => none }
def buildIntraRow : OpenClaim := { program := "ytbmglemjfodfhaagreat", sum := "050224c51a61309fc2b6a7c9dcdabef49b911f7fcd450cdbea951dfe44c7251d", func := "praxinoscope/praxinoscopelaw20.BuildIntra", spec := "buildIntra", inPlace := ["internal/bytealg.MakeNoZero"], unfollowed := true, recurses := true, apart := false }
def BuildIntraSaid : Prop := buildIntraRow.holds Tryz.pinned (OpenSpec.ofChange buildIntraSpec)

/-- ITS FALSE NEIGHBOUR: 'it returns false'. Refute it at one input. -/
def buildIntraWrong : ChangeSpec := { name := "buildIntra", fn := fun _ => fun
  | [d1, d2, d3, d4, d5, d6, d7, d8] => { results := [.lit (.bool false)], args := [d1, d2, d3, d4, d5, d6, d7, d8] }
  | _ => none }
def BuildIntraWrongFalsely : Prop := buildIntraRow.holds Tryz.pinned (OpenSpec.ofChange buildIntraWrong)

/-- 'praxinoscopelaw20.BuildParts': WHATEVER THE INPUT: true; the input reads as it did. -/
def buildPartsSpec : ChangeSpec := { name := "buildParts", fn := fun _ => fun
  | [d1, d2, d3, d4] => { results := [.lit (.bool true)], args := [d1, d2, d3, d4] }
  | _ => none }
def buildPartsRow : OpenClaim := { program := "ytbmglemjfodfhaagreat", sum := "050224c51a61309fc2b6a7c9dcdabef49b911f7fcd450cdbea951dfe44c7251d", func := "praxinoscope/praxinoscopelaw20.BuildParts", spec := "buildParts", inPlace := ["internal/bytealg.MakeNoZero"], unfollowed := true, recurses := true, apart := false }
def BuildPartsSaid : Prop := buildPartsRow.holds Tryz.pinned (OpenSpec.ofChange buildPartsSpec)

/-- ITS FALSE NEIGHBOUR: 'it returns false'. Refute it at one input. -/
def buildPartsWrong : ChangeSpec := { name := "buildParts", fn := fun _ => fun
  | [d1, d2, d3, d4] => { results := [.lit (.bool false)], args := [d1, d2, d3, d4] }
  | _ => none }
def BuildPartsWrongFalsely : Prop := buildPartsRow.holds Tryz.pinned (OpenSpec.ofChange buildPartsWrong)

/- THE SECOND FORM. 'bulk': how many values and letters a reading holds, each counted each time it is reached (what is shared counts as often as it is met; a slice's spare places count too). A statement '..UptoSaid' is the law's where the arguments, and the package variables that the reading takes, are together of bulk at most 1048576: NARROWER than '..Said'. Prove '..Said' where nothing that the law and all that it calls make is longer than what came in: it says more and counts as full. Else prove '..UptoSaid'. A law counts once. -/
mutual
def uptoBulk {H : Type} : DataW H → Nat
  | .lit (.string bytes) => bytes.length + 1
  | .lit _ => 1
  | .nil => 1
  | .ptr d => uptoBulk d + 1
  | .slice elems spare => uptoBulkAll elems + uptoBulkAll spare + 1
  | .agg parts => uptoBulkAll parts + 1
  | .iface _ d => uptoBulk d + 1
  | .map entries => uptoBulkEntries entries + 1
  | .held _ => 1
def uptoBulkAll {H : Type} : List (DataW H) → Nat
  | [] => 0
  | d :: r => uptoBulk d + uptoBulkAll r
def uptoBulkEntries {H : Type} : List (Lit × DataW H) → Nat
  | [] => 0
  | x :: r => uptoBulkEntry x + uptoBulkEntries r
def uptoBulkEntry {H : Type} : Lit × DataW H → Nat
  | (.string bytes, d) => bytes.length + uptoBulk d + 1
  | (_, d) => uptoBulk d + 1
 end
def uptoSmall : (H : Type) → List (DataW H) → Bool := fun _ ds => decide (uptoBulkAll ds ≤ 1048576)
def OpenSpec.upto (s : _root_.Go.ChangeSpec) : _root_.Go.OpenSpec := { _root_.Go.OpenSpec.ofChange s with cond := some uptoSmall }

/-- 'praxinoscopelaw20.BuildOnly', WHERE WHAT IT READS IS OF BULK AT MOST 1048576: true; the input reads as it did. -/
def buildOnlyUptoRow : OpenClaim := { program := "ytbmglemjfodfhaagreat", sum := "050224c51a61309fc2b6a7c9dcdabef49b911f7fcd450cdbea951dfe44c7251d", func := "praxinoscope/praxinoscopelaw20.BuildOnly", spec := "buildOnly", inPlace := ["internal/bytealg.MakeNoZero"], unfollowed := true, recurses := true, apart := false, narrowed := true }
def BuildOnlyUptoSaid : Prop := buildOnlyUptoRow.holds Tryz.pinned (OpenSpec.upto buildOnlySpec)

/-- 'praxinoscopelaw20.BuildMacros', WHERE WHAT IT READS IS OF BULK AT MOST 1048576: true; the input reads as it did. -/
def buildMacrosUptoRow : OpenClaim := { program := "ytbmglemjfodfhaagreat", sum := "050224c51a61309fc2b6a7c9dcdabef49b911f7fcd450cdbea951dfe44c7251d", func := "praxinoscope/praxinoscopelaw20.BuildMacros", spec := "buildMacros", inPlace := ["internal/bytealg.MakeNoZero"], unfollowed := true, recurses := true, apart := false, narrowed := true }
def BuildMacrosUptoSaid : Prop := buildMacrosUptoRow.holds Tryz.pinned (OpenSpec.upto buildMacrosSpec)

/-- 'praxinoscopelaw20.BuildStill', WHERE WHAT IT READS IS OF BULK AT MOST 1048576: true; the input reads as it did. -/
def buildStillUptoRow : OpenClaim := { program := "ytbmglemjfodfhaagreat", sum := "050224c51a61309fc2b6a7c9dcdabef49b911f7fcd450cdbea951dfe44c7251d", func := "praxinoscope/praxinoscopelaw20.BuildStill", spec := "buildStill", inPlace := ["internal/bytealg.MakeNoZero"], unfollowed := true, recurses := true, apart := false, narrowed := true }
def BuildStillUptoSaid : Prop := buildStillUptoRow.holds Tryz.pinned (OpenSpec.upto buildStillSpec)

/-- 'praxinoscopelaw20.BuildGroups', WHERE WHAT IT READS IS OF BULK AT MOST 1048576: true; the input reads as it did. -/
def buildGroupsUptoRow : OpenClaim := { program := "ytbmglemjfodfhaagreat", sum := "050224c51a61309fc2b6a7c9dcdabef49b911f7fcd450cdbea951dfe44c7251d", func := "praxinoscope/praxinoscopelaw20.BuildGroups", spec := "buildGroups", inPlace := ["internal/bytealg.MakeNoZero"], unfollowed := true, recurses := true, apart := false, narrowed := true }
def BuildGroupsUptoSaid : Prop := buildGroupsUptoRow.holds Tryz.pinned (OpenSpec.upto buildGroupsSpec)

/-- 'praxinoscopelaw20.BuildKnown', WHERE WHAT IT READS IS OF BULK AT MOST 1048576: true; the input reads as it did. -/
def buildKnownUptoRow : OpenClaim := { program := "ytbmglemjfodfhaagreat", sum := "050224c51a61309fc2b6a7c9dcdabef49b911f7fcd450cdbea951dfe44c7251d", func := "praxinoscope/praxinoscopelaw20.BuildKnown", spec := "buildKnown", inPlace := ["internal/bytealg.MakeNoZero"], unfollowed := true, recurses := true, apart := false, narrowed := true }
def BuildKnownUptoSaid : Prop := buildKnownUptoRow.holds Tryz.pinned (OpenSpec.upto buildKnownSpec)

/-- 'praxinoscopelaw20.BuildIntra', WHERE WHAT IT READS IS OF BULK AT MOST 1048576: true; the input reads as it did. -/
def buildIntraUptoRow : OpenClaim := { program := "ytbmglemjfodfhaagreat", sum := "050224c51a61309fc2b6a7c9dcdabef49b911f7fcd450cdbea951dfe44c7251d", func := "praxinoscope/praxinoscopelaw20.BuildIntra", spec := "buildIntra", inPlace := ["internal/bytealg.MakeNoZero"], unfollowed := true, recurses := true, apart := false, narrowed := true }
def BuildIntraUptoSaid : Prop := buildIntraUptoRow.holds Tryz.pinned (OpenSpec.upto buildIntraSpec)

/-- 'praxinoscopelaw20.BuildParts', WHERE WHAT IT READS IS OF BULK AT MOST 1048576: true; the input reads as it did. -/
def buildPartsUptoRow : OpenClaim := { program := "ytbmglemjfodfhaagreat", sum := "050224c51a61309fc2b6a7c9dcdabef49b911f7fcd450cdbea951dfe44c7251d", func := "praxinoscope/praxinoscopelaw20.BuildParts", spec := "buildParts", inPlace := ["internal/bytealg.MakeNoZero"], unfollowed := true, recurses := true, apart := false, narrowed := true }
def BuildPartsUptoSaid : Prop := buildPartsUptoRow.holds Tryz.pinned (OpenSpec.upto buildPartsSpec)

end Rows
end Go.Proofs.YtbmglemjfodfhaaGreat
