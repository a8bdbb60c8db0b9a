/-
  NARROWER THAN 'FOR EVERY INPUT', by the rows' own cells (each row's printed sentence says how): BuildBack: loops · BuildValues: loops · BuildShows: loops · BuildFits: loops · BuildOthers: loops · BuildOwn: loops · BuildTypes: loops.
  DERIVED. THE GIVEN ROWS OF THIS SEAT. 7 by the template 'for every input the law returns true; each argument reads behind the call as it read before'; 0 by the template 'total and deterministic' (their statements: YtgdemplcpcacaaaTotals.lean).
  GIVEN WITH THE SEED: the statements are not yours to turn. If you find one false, say at which input.
  Laid BY PROGRAM, IN A SANDBOX (cutbox-rows.mjs): the forced cells as the released guide's own fill.sh prints them over the translation 5a4f14afc03930bc… (all of the seat's roots in one cut). By AI agents, Wed Nov 11 2026. No macro, syntax, notation, axiom, sorry.
-/
import Derived.Test.YtgdemplcpcacaaaChecked
import GoSem.Claim
import GoSem.ClaimJoined
import GoSem.ClaimMapViews
import Derived.JoinedTies
import Derived.KernelRfl
namespace Go.Proofs.Ytgdemplcpcacaaa
/- THE CELL 'sum', in the pinned program and in every row, IS THE sha256 OF THE DUMP (.gsa) THAT YtgdemplcpcacaaaProg.lean LOADS. Nothing in Lean hashes anything: it is a label: what it is worth is what the hold of that sum in a sandbox is worth. -/
noncomputable def Try.pinned : Pinned := { name := "ytgdemplcpcacaaa", sum := "5a4f14afc03930bca61cc98de4dcdc1f22d8464e1d09d5f712bc072f4b5e0b35", checked := Try.checked }
namespace Rows
def none {H : Type} : Left H := { results := [], args := [] }

/-- 'quoinlaw21.BuildBack': WHATEVER THE INPUT: true; the input reads as it did. -/
def buildBackSpec : ChangeSpec := { name := "buildBack", fn := fun _ => fun
  | [d1, d2] => { results := [.lit (.bool true)], args := [d1, d2] }
  | _ => none }
def buildBackRow : OpenClaim := { program := "ytgdemplcpcacaaa", sum := "5a4f14afc03930bca61cc98de4dcdc1f22d8464e1d09d5f712bc072f4b5e0b35", func := "quoin/quoinlaw21.BuildBack", spec := "buildBack", inPlace := ["internal/abi.NoEscape", "internal/bytealg.IndexByteString"], unfollowed := true, recurses := true, loops := true, apart := false }
def BuildBackSaid : Prop := buildBackRow.holds Try.pinned (OpenSpec.ofChange buildBackSpec)

/-- ITS FALSE NEIGHBOUR: 'it returns false'. Refute it at one input. -/
def buildBackWrong : ChangeSpec := { name := "buildBack", fn := fun _ => fun
  | [d1, d2] => { results := [.lit (.bool false)], args := [d1, d2] }
  | _ => none }
def BuildBackWrongFalsely : Prop := buildBackRow.holds Try.pinned (OpenSpec.ofChange buildBackWrong)

/-- 'quoinlaw21.BuildValues': WHATEVER THE INPUT: true; the input reads as it did. -/
def buildValuesSpec : ChangeSpec := { name := "buildValues", fn := fun _ => fun
  | [d1, d2] => { results := [.lit (.bool true)], args := [d1, d2] }
  | _ => none }
def buildValuesRow : OpenClaim := { program := "ytgdemplcpcacaaa", sum := "5a4f14afc03930bca61cc98de4dcdc1f22d8464e1d09d5f712bc072f4b5e0b35", func := "quoin/quoinlaw21.BuildValues", spec := "buildValues", inPlace := ["internal/abi.NoEscape"], unfollowed := true, recurses := true, loops := true, apart := false }
def BuildValuesSaid : Prop := buildValuesRow.holds Try.pinned (OpenSpec.ofChange buildValuesSpec)

/-- ITS FALSE NEIGHBOUR: 'it returns false'. Refute it at one input. -/
def buildValuesWrong : ChangeSpec := { name := "buildValues", fn := fun _ => fun
  | [d1, d2] => { results := [.lit (.bool false)], args := [d1, d2] }
  | _ => none }
def BuildValuesWrongFalsely : Prop := buildValuesRow.holds Try.pinned (OpenSpec.ofChange buildValuesWrong)

/-- 'quoinlaw21.BuildShows': WHATEVER THE INPUT: true; the input reads as it did. -/
def buildShowsSpec : ChangeSpec := { name := "buildShows", fn := fun _ => fun
  | [d] => { results := [.lit (.bool true)], args := [d] }
  | _ => none }
def buildShowsRow : OpenClaim := { program := "ytgdemplcpcacaaa", sum := "5a4f14afc03930bca61cc98de4dcdc1f22d8464e1d09d5f712bc072f4b5e0b35", func := "quoin/quoinlaw21.BuildShows", spec := "buildShows", inPlace := ["internal/abi.NoEscape"], unfollowed := true, recurses := true, loops := true, apart := false }
def BuildShowsSaid : Prop := buildShowsRow.holds Try.pinned (OpenSpec.ofChange buildShowsSpec)

/-- ITS FALSE NEIGHBOUR: 'it returns false'. Refute it at one input. -/
def buildShowsWrong : ChangeSpec := { name := "buildShows", fn := fun _ => fun
  | [d] => { results := [.lit (.bool false)], args := [d] }
  | _ => none }
def BuildShowsWrongFalsely : Prop := buildShowsRow.holds Try.pinned (OpenSpec.ofChange buildShowsWrong)

/-- 'quoinlaw21.BuildFits': WHATEVER THE INPUT: true; the input reads as it did. -/
def buildFitsSpec : ChangeSpec := { name := "buildFits", fn := fun _ => fun
  | [d1, d2] => { results := [.lit (.bool true)], args := [d1, d2] }
  | _ => none }
def buildFitsRow : OpenClaim := { program := "ytgdemplcpcacaaa", sum := "5a4f14afc03930bca61cc98de4dcdc1f22d8464e1d09d5f712bc072f4b5e0b35", func := "quoin/quoinlaw21.BuildFits", spec := "buildFits", inPlace := ["internal/abi.NoEscape"], unfollowed := true, recurses := true, loops := true, apart := false }
def BuildFitsSaid : Prop := buildFitsRow.holds Try.pinned (OpenSpec.ofChange buildFitsSpec)

/-- ITS FALSE NEIGHBOUR: 'it returns false'. Refute it at one input. -/
def buildFitsWrong : ChangeSpec := { name := "buildFits", fn := fun _ => fun
  | [d1, d2] => { results := [.lit (.bool false)], args := [d1, d2] }
  | _ => none }
def BuildFitsWrongFalsely : Prop := buildFitsRow.holds Try.pinned (OpenSpec.ofChange buildFitsWrong)

/-- 'quoinlaw21.BuildOthers': WHATEVER THE INPUT: true; the input reads as it did. -/
def buildOthersSpec : ChangeSpec := { name := "buildOthers", fn := fun _ => fun
  | [d1, d2, d3] => { results := [.lit (.bool true)], args := [d1, d2, d3] }
  | _ => none }
def buildOthersRow : OpenClaim := { program := "ytgdemplcpcacaaa", sum := "5a4f14afc03930bca61cc98de4dcdc1f22d8464e1d09d5f712bc072f4b5e0b35", func := "quoin/quoinlaw21.BuildOthers", spec := "buildOthers", inPlace := ["internal/abi.NoEscape"], unfollowed := true, recurses := true, loops := true, apart := false }
def BuildOthersSaid : Prop := buildOthersRow.holds Try.pinned (OpenSpec.ofChange buildOthersSpec)

/-- ITS FALSE NEIGHBOUR: 'it returns false'. Refute it at one input. -/
def buildOthersWrong : ChangeSpec := { name := "buildOthers", fn := fun _ => fun
  | [d1, d2, d3] => { results := [.lit (.bool false)], args := [d1, d2, d3] }
  | _ => none }
def BuildOthersWrongFalsely : Prop := buildOthersRow.holds Try.pinned (OpenSpec.ofChange buildOthersWrong)

/-- 'quoinlaw21.BuildOwn': WHATEVER THE INPUT: true; the input reads as it did. -/
def buildOwnSpec : ChangeSpec := { name := "buildOwn", fn := fun _ => fun
  | [d1, d2] => { results := [.lit (.bool true)], args := [d1, d2] }
  | _ => none }
def buildOwnRow : OpenClaim := { program := "ytgdemplcpcacaaa", sum := "5a4f14afc03930bca61cc98de4dcdc1f22d8464e1d09d5f712bc072f4b5e0b35", func := "quoin/quoinlaw21.BuildOwn", spec := "buildOwn", inPlace := ["internal/abi.NoEscape"], unfollowed := true, recurses := true, loops := true, apart := false }
def BuildOwnSaid : Prop := buildOwnRow.holds Try.pinned (OpenSpec.ofChange buildOwnSpec)

/-- ITS FALSE NEIGHBOUR: 'it returns false'. Refute it at one input. -/
def buildOwnWrong : ChangeSpec := { name := "buildOwn", fn := fun _ => fun
  | [d1, d2] => { results := [.lit (.bool false)], args := [d1, d2] }
  | _ => none }
def BuildOwnWrongFalsely : Prop := buildOwnRow.holds Try.pinned (OpenSpec.ofChange buildOwnWrong)

/-- 'quoinlaw21.BuildTypes': WHATEVER THE INPUT: true; the input reads as it did. -/
def buildTypesSpec : ChangeSpec := { name := "buildTypes", fn := fun _ => fun
  | [d1, d2, d3] => { results := [.lit (.bool true)], args := [d1, d2, d3] }
  | _ => none }
def buildTypesRow : OpenClaim := { program := "ytgdemplcpcacaaa", sum := "5a4f14afc03930bca61cc98de4dcdc1f22d8464e1d09d5f712bc072f4b5e0b35", func := "quoin/quoinlaw21.BuildTypes", spec := "buildTypes", inPlace := ["internal/abi.NoEscape"], unfollowed := true, recurses := true, loops := true, apart := false }
def BuildTypesSaid : Prop := buildTypesRow.holds Try.pinned (OpenSpec.ofChange buildTypesSpec)

/-- ITS FALSE NEIGHBOUR: 'it returns false'. Refute it at one input. -/
def buildTypesWrong : ChangeSpec := { name := "buildTypes", fn := fun _ => fun
  | [d1, d2, d3] => { results := [.lit (.bool false)], args := [d1, d2, d3] }
  | _ => none }
def BuildTypesWrongFalsely : Prop := buildTypesRow.holds Try.pinned (OpenSpec.ofChange buildTypesWrong)

/- THE SECOND FORM. 'bulk': how many values and letters a reading holds, each counted each time it is reached (what is shared counts as often as it is met; a slice's spare places count too). A statement '..UptoSaid' is the law's where the arguments, and the package variables that the reading takes, are together of bulk at most 1048576: NARROWER than '..Said'. Prove '..Said' where nothing that the law and all that it calls make is longer than what came in: it says more and counts as full. Else prove '..UptoSaid'. A law counts once. -/
mutual
def uptoBulk {H : Type} : DataW H → Nat
  | .lit (.string bytes) => bytes.length + 1
  | .lit _ => 1
  | .nil => 1
  | .ptr d => uptoBulk d + 1
  | .slice elems spare => uptoBulkAll elems + uptoBulkAll spare + 1
  | .agg parts => uptoBulkAll parts + 1
  | .iface _ d => uptoBulk d + 1
  | .map entries => uptoBulkEntries entries + 1
  | .held _ => 1
def uptoBulkAll {H : Type} : List (DataW H) → Nat
  | [] => 0
  | d :: r => uptoBulk d + uptoBulkAll r
def uptoBulkEntries {H : Type} : List (Lit × DataW H) → Nat
  | [] => 0
  | x :: r => uptoBulkEntry x + uptoBulkEntries r
def uptoBulkEntry {H : Type} : Lit × DataW H → Nat
  | (.string bytes, d) => bytes.length + uptoBulk d + 1
  | (_, d) => uptoBulk d + 1
 end
def uptoSmall : (H : Type) → List (DataW H) → Bool := fun _ ds => decide (uptoBulkAll ds ≤ 1048576)
def OpenSpec.upto (s : _root_.Go.ChangeSpec) : _root_.Go.OpenSpec := { _root_.Go.OpenSpec.ofChange s with cond := some uptoSmall }

/-- 'quoinlaw21.BuildBack', WHERE WHAT IT READS IS OF BULK AT MOST 1048576: true; the input reads as it did. -/
def buildBackUptoRow : OpenClaim := { program := "ytgdemplcpcacaaa", sum := "5a4f14afc03930bca61cc98de4dcdc1f22d8464e1d09d5f712bc072f4b5e0b35", func := "quoin/quoinlaw21.BuildBack", spec := "buildBack", inPlace := ["internal/abi.NoEscape", "internal/bytealg.IndexByteString"], unfollowed := true, recurses := true, loops := true, apart := false, narrowed := true }
def BuildBackUptoSaid : Prop := buildBackUptoRow.holds Try.pinned (OpenSpec.upto buildBackSpec)

/-- 'quoinlaw21.BuildValues', WHERE WHAT IT READS IS OF BULK AT MOST 1048576: true; the input reads as it did. -/
def buildValuesUptoRow : OpenClaim := { program := "ytgdemplcpcacaaa", sum := "5a4f14afc03930bca61cc98de4dcdc1f22d8464e1d09d5f712bc072f4b5e0b35", func := "quoin/quoinlaw21.BuildValues", spec := "buildValues", inPlace := ["internal/abi.NoEscape"], unfollowed := true, recurses := true, loops := true, apart := false, narrowed := true }
def BuildValuesUptoSaid : Prop := buildValuesUptoRow.holds Try.pinned (OpenSpec.upto buildValuesSpec)

/-- 'quoinlaw21.BuildShows', WHERE WHAT IT READS IS OF BULK AT MOST 1048576: true; the input reads as it did. -/
def buildShowsUptoRow : OpenClaim := { program := "ytgdemplcpcacaaa", sum := "5a4f14afc03930bca61cc98de4dcdc1f22d8464e1d09d5f712bc072f4b5e0b35", func := "quoin/quoinlaw21.BuildShows", spec := "buildShows", inPlace := ["internal/abi.NoEscape"], unfollowed := true, recurses := true, loops := true, apart := false, narrowed := true }
def BuildShowsUptoSaid : Prop := buildShowsUptoRow.holds Try.pinned (OpenSpec.upto buildShowsSpec)

/-- 'quoinlaw21.BuildFits', WHERE WHAT IT READS IS OF BULK AT MOST 1048576: true; the input reads as it did. -/
def buildFitsUptoRow : OpenClaim := { program := "ytgdemplcpcacaaa", sum := "5a4f14afc03930bca61cc98de4dcdc1f22d8464e1d09d5f712bc072f4b5e0b35", func := "quoin/quoinlaw21.BuildFits", spec := "buildFits", inPlace := ["internal/abi.NoEscape"], unfollowed := true, recurses := true, loops := true, apart := false, narrowed := true }
def BuildFitsUptoSaid : Prop := buildFitsUptoRow.holds Try.pinned (OpenSpec.upto buildFitsSpec)

/-- 'quoinlaw21.BuildOthers', WHERE WHAT IT READS IS OF BULK AT MOST 1048576: true; the input reads as it did. -/
def buildOthersUptoRow : OpenClaim := { program := "ytgdemplcpcacaaa", sum := "5a4f14afc03930bca61cc98de4dcdc1f22d8464e1d09d5f712bc072f4b5e0b35", func := "quoin/quoinlaw21.BuildOthers", spec := "buildOthers", inPlace := ["internal/abi.NoEscape"], unfollowed := true, recurses := true, loops := true, apart := false, narrowed := true }
def BuildOthersUptoSaid : Prop := buildOthersUptoRow.holds Try.pinned (OpenSpec.upto buildOthersSpec)

/-- 'quoinlaw21.BuildOwn', WHERE WHAT IT READS IS OF BULK AT MOST 1048576: true; the input reads as it did. -/
def buildOwnUptoRow : OpenClaim := { program := "ytgdemplcpcacaaa", sum := "5a4f14afc03930bca61cc98de4dcdc1f22d8464e1d09d5f712bc072f4b5e0b35", func := "quoin/quoinlaw21.BuildOwn", spec := "buildOwn", inPlace := ["internal/abi.NoEscape"], unfollowed := true, recurses := true, loops := true, apart := false, narrowed := true }
def BuildOwnUptoSaid : Prop := buildOwnUptoRow.holds Try.pinned (OpenSpec.upto buildOwnSpec)

/-- 'quoinlaw21.BuildTypes', WHERE WHAT IT READS IS OF BULK AT MOST 1048576: true; the input reads as it did. -/
def buildTypesUptoRow : OpenClaim := { program := "ytgdemplcpcacaaa", sum := "5a4f14afc03930bca61cc98de4dcdc1f22d8464e1d09d5f712bc072f4b5e0b35", func := "quoin/quoinlaw21.BuildTypes", spec := "buildTypes", inPlace := ["internal/abi.NoEscape"], unfollowed := true, recurses := true, loops := true, apart := false, narrowed := true }
def BuildTypesUptoSaid : Prop := buildTypesUptoRow.holds Try.pinned (OpenSpec.upto buildTypesSpec)

end Rows
end Go.Proofs.Ytgdemplcpcacaaa
