/-
  No cell of these rows narrows 'for every input' (looked for: loops, veiled, ifaces, maps, wideKeys, modest, calm, conditions, laid).
  DERIVED. THE GIVEN ROWS OF THIS SEAT. 12 by the template 'for every input the law returns true; each argument reads behind the call as it read before'; 0 by the template 'total and deterministic' (their statements: YtgcckeglmhbnmaaTotals.lean).
  GIVEN WITH THE SEED: the statements are not yours to turn. If you find one false, say at which input.
  Laid BY PROGRAM, IN A SANDBOX (cutbox-rows.mjs): the forced cells as the released guide's own fill.sh prints them over the translation bc3720f1ff981a33… (all of the seat's roots in one cut). By AI agents, Wed Nov 11 2026. No macro, syntax, notation, axiom, sorry.
-/
import Derived.Test.YtgcckeglmhbnmaaChecked
import GoSem.Claim
import GoSem.ClaimJoined
import GoSem.ClaimMapViews
import Derived.JoinedTies
import Derived.KernelRfl
namespace Go.Proofs.Ytgcckeglmhbnmaa
/- THE CELL 'sum', in the pinned program and in every row, IS THE sha256 OF THE DUMP (.gsa) THAT YtgcckeglmhbnmaaProg.lean LOADS. Nothing in Lean hashes anything: it is a label: what it is worth is what the hold of that sum in a sandbox is worth. -/
noncomputable def Try.pinned : Pinned := { name := "ytgcckeglmhbnmaa", sum := "bc3720f1ff981a33d4b9c376f39ce44d3730f331bf409cd24d5b72eb975c244f", checked := Try.checked }
namespace Rows
def none {H : Type} : Left H := { results := [], args := [] }

/-- 'laws.FnExactDeskWords': WHATEVER THE INPUT: true; the input reads as it did. -/
def fnExactDeskWordsSpec : ChangeSpec := { name := "fnExactDeskWords", fn := fun _ => fun
  | [] => { results := [.lit (.bool true)], args := [] }
  | _ => none }
def fnExactDeskWordsRow : OpenClaim := { program := "ytgcckeglmhbnmaa", sum := "bc3720f1ff981a33d4b9c376f39ce44d3730f331bf409cd24d5b72eb975c244f", func := "loop.example/g00386/laws.FnExactDeskWords", spec := "fnExactDeskWords", apart := false }
def FnExactDeskWordsSaid : Prop := fnExactDeskWordsRow.holds Try.pinned (OpenSpec.ofChange fnExactDeskWordsSpec)

/-- ITS FALSE NEIGHBOUR: 'it returns false'. Refute it at one input. -/
def fnExactDeskWordsWrong : ChangeSpec := { name := "fnExactDeskWords", fn := fun _ => fun
  | [] => { results := [.lit (.bool false)], args := [] }
  | _ => none }
def FnExactDeskWordsWrongFalsely : Prop := fnExactDeskWordsRow.holds Try.pinned (OpenSpec.ofChange fnExactDeskWordsWrong)

/-- 'laws.FnExactChunksOf': WHATEVER THE INPUT: true; the input reads as it did. -/
def fnExactChunksOfSpec : ChangeSpec := { name := "fnExactChunksOf", fn := fun _ => fun
  | [d1, d2] => { results := [.lit (.bool true)], args := [d1, d2] }
  | _ => none }
def fnExactChunksOfRow : OpenClaim := { program := "ytgcckeglmhbnmaa", sum := "bc3720f1ff981a33d4b9c376f39ce44d3730f331bf409cd24d5b72eb975c244f", func := "loop.example/g00386/laws.FnExactChunksOf", spec := "fnExactChunksOf", apart := false }
def FnExactChunksOfSaid : Prop := fnExactChunksOfRow.holds Try.pinned (OpenSpec.ofChange fnExactChunksOfSpec)

/-- ITS FALSE NEIGHBOUR: 'it returns false'. Refute it at one input. -/
def fnExactChunksOfWrong : ChangeSpec := { name := "fnExactChunksOf", fn := fun _ => fun
  | [d1, d2] => { results := [.lit (.bool false)], args := [d1, d2] }
  | _ => none }
def FnExactChunksOfWrongFalsely : Prop := fnExactChunksOfRow.holds Try.pinned (OpenSpec.ofChange fnExactChunksOfWrong)

/-- 'laws.FnExactClientNew': WHATEVER THE INPUT: true; the input reads as it did. -/
def fnExactClientNewSpec : ChangeSpec := { name := "fnExactClientNew", fn := fun _ => fun
  | [d] => { results := [.lit (.bool true)], args := [d] }
  | _ => none }
def fnExactClientNewRow : OpenClaim := { program := "ytgcckeglmhbnmaa", sum := "bc3720f1ff981a33d4b9c376f39ce44d3730f331bf409cd24d5b72eb975c244f", func := "loop.example/g00386/laws.FnExactClientNew", spec := "fnExactClientNew", apart := false }
def FnExactClientNewSaid : Prop := fnExactClientNewRow.holds Try.pinned (OpenSpec.ofChange fnExactClientNewSpec)

/-- ITS FALSE NEIGHBOUR: 'it returns false'. Refute it at one input. -/
def fnExactClientNewWrong : ChangeSpec := { name := "fnExactClientNew", fn := fun _ => fun
  | [d] => { results := [.lit (.bool false)], args := [d] }
  | _ => none }
def FnExactClientNewWrongFalsely : Prop := fnExactClientNewRow.holds Try.pinned (OpenSpec.ofChange fnExactClientNewWrong)

/-- 'laws.FnExactAgreed': WHATEVER THE INPUT: true; the input reads as it did. -/
def fnExactAgreedSpec : ChangeSpec := { name := "fnExactAgreed", fn := fun _ => fun
  | [d] => { results := [.lit (.bool true)], args := [d] }
  | _ => none }
def fnExactAgreedRow : OpenClaim := { program := "ytgcckeglmhbnmaa", sum := "bc3720f1ff981a33d4b9c376f39ce44d3730f331bf409cd24d5b72eb975c244f", func := "loop.example/g00386/laws.FnExactAgreed", spec := "fnExactAgreed", unfollowed := true, recurses := true, apart := false }
def FnExactAgreedSaid : Prop := fnExactAgreedRow.holds Try.pinned (OpenSpec.ofChange fnExactAgreedSpec)

/-- ITS FALSE NEIGHBOUR: 'it returns false'. Refute it at one input. -/
def fnExactAgreedWrong : ChangeSpec := { name := "fnExactAgreed", fn := fun _ => fun
  | [d] => { results := [.lit (.bool false)], args := [d] }
  | _ => none }
def FnExactAgreedWrongFalsely : Prop := fnExactAgreedRow.holds Try.pinned (OpenSpec.ofChange fnExactAgreedWrong)

/-- 'laws.FnExactClientRight': WHATEVER THE INPUT: true; the input reads as it did. -/
def fnExactClientRightSpec : ChangeSpec := { name := "fnExactClientRight", fn := fun _ => fun
  | [d] => { results := [.lit (.bool true)], args := [d] }
  | _ => none }
def fnExactClientRightRow : OpenClaim := { program := "ytgcckeglmhbnmaa", sum := "bc3720f1ff981a33d4b9c376f39ce44d3730f331bf409cd24d5b72eb975c244f", func := "loop.example/g00386/laws.FnExactClientRight", spec := "fnExactClientRight", apart := false }
def FnExactClientRightSaid : Prop := fnExactClientRightRow.holds Try.pinned (OpenSpec.ofChange fnExactClientRightSpec)

/-- ITS FALSE NEIGHBOUR: 'it returns false'. Refute it at one input. -/
def fnExactClientRightWrong : ChangeSpec := { name := "fnExactClientRight", fn := fun _ => fun
  | [d] => { results := [.lit (.bool false)], args := [d] }
  | _ => none }
def FnExactClientRightWrongFalsely : Prop := fnExactClientRightRow.holds Try.pinned (OpenSpec.ofChange fnExactClientRightWrong)

/-- 'laws.FnExactChunksJoin': WHATEVER THE INPUT: true; the input reads as it did. -/
def fnExactChunksJoinSpec : ChangeSpec := { name := "fnExactChunksJoin", fn := fun _ => fun
  | [d] => { results := [.lit (.bool true)], args := [d] }
  | _ => none }
def fnExactChunksJoinRow : OpenClaim := { program := "ytgcckeglmhbnmaa", sum := "bc3720f1ff981a33d4b9c376f39ce44d3730f331bf409cd24d5b72eb975c244f", func := "loop.example/g00386/laws.FnExactChunksJoin", spec := "fnExactChunksJoin", inPlace := ["internal/abi.NoEscape", "internal/bytealg.MakeNoZero"], unfollowed := true, recurses := true, apart := false }
def FnExactChunksJoinSaid : Prop := fnExactChunksJoinRow.holds Try.pinned (OpenSpec.ofChange fnExactChunksJoinSpec)

/-- ITS FALSE NEIGHBOUR: 'it returns false'. Refute it at one input. -/
def fnExactChunksJoinWrong : ChangeSpec := { name := "fnExactChunksJoin", fn := fun _ => fun
  | [d] => { results := [.lit (.bool false)], args := [d] }
  | _ => none }
def FnExactChunksJoinWrongFalsely : Prop := fnExactChunksJoinRow.holds Try.pinned (OpenSpec.ofChange fnExactChunksJoinWrong)

/-- 'laws.FnAgreed': WHATEVER THE INPUT: true; the input reads as it did. -/
def fnAgreedSpec : ChangeSpec := { name := "fnAgreed", fn := fun _ => fun
  | [d] => { results := [.lit (.bool true)], args := [d] }
  | _ => none }
def fnAgreedRow : OpenClaim := { program := "ytgcckeglmhbnmaa", sum := "bc3720f1ff981a33d4b9c376f39ce44d3730f331bf409cd24d5b72eb975c244f", func := "loop.example/g00386/laws.FnAgreed", spec := "fnAgreed", unfollowed := true, recurses := true, apart := false }
def FnAgreedSaid : Prop := fnAgreedRow.holds Try.pinned (OpenSpec.ofChange fnAgreedSpec)

/-- ITS FALSE NEIGHBOUR: 'it returns false'. Refute it at one input. -/
def fnAgreedWrong : ChangeSpec := { name := "fnAgreed", fn := fun _ => fun
  | [d] => { results := [.lit (.bool false)], args := [d] }
  | _ => none }
def FnAgreedWrongFalsely : Prop := fnAgreedRow.holds Try.pinned (OpenSpec.ofChange fnAgreedWrong)

/-- 'laws.FnChunks': WHATEVER THE INPUT: true; the input reads as it did. -/
def fnChunksSpec : ChangeSpec := { name := "fnChunks", fn := fun _ => fun
  | [d1, d2] => { results := [.lit (.bool true)], args := [d1, d2] }
  | _ => none }
def fnChunksRow : OpenClaim := { program := "ytgcckeglmhbnmaa", sum := "bc3720f1ff981a33d4b9c376f39ce44d3730f331bf409cd24d5b72eb975c244f", func := "loop.example/g00386/laws.FnChunks", spec := "fnChunks", inPlace := ["internal/abi.NoEscape", "internal/bytealg.MakeNoZero"], unfollowed := true, recurses := true, apart := false }
def FnChunksSaid : Prop := fnChunksRow.holds Try.pinned (OpenSpec.ofChange fnChunksSpec)

/-- ITS FALSE NEIGHBOUR: 'it returns false'. Refute it at one input. -/
def fnChunksWrong : ChangeSpec := { name := "fnChunks", fn := fun _ => fun
  | [d1, d2] => { results := [.lit (.bool false)], args := [d1, d2] }
  | _ => none }
def FnChunksWrongFalsely : Prop := fnChunksRow.holds Try.pinned (OpenSpec.ofChange fnChunksWrong)

/-- 'laws.FnExactReplicaNew': WHATEVER THE INPUT: true; the input reads as it did. -/
def fnExactReplicaNewSpec : ChangeSpec := { name := "fnExactReplicaNew", fn := fun _ => fun
  | [d] => { results := [.lit (.bool true)], args := [d] }
  | _ => none }
def fnExactReplicaNewRow : OpenClaim := { program := "ytgcckeglmhbnmaa", sum := "bc3720f1ff981a33d4b9c376f39ce44d3730f331bf409cd24d5b72eb975c244f", func := "loop.example/g00386/laws.FnExactReplicaNew", spec := "fnExactReplicaNew", apart := false }
def FnExactReplicaNewSaid : Prop := fnExactReplicaNewRow.holds Try.pinned (OpenSpec.ofChange fnExactReplicaNewSpec)

/-- ITS FALSE NEIGHBOUR: 'it returns false'. Refute it at one input. -/
def fnExactReplicaNewWrong : ChangeSpec := { name := "fnExactReplicaNew", fn := fun _ => fun
  | [d] => { results := [.lit (.bool false)], args := [d] }
  | _ => none }
def FnExactReplicaNewWrongFalsely : Prop := fnExactReplicaNewRow.holds Try.pinned (OpenSpec.ofChange fnExactReplicaNewWrong)

/-- 'laws.FnExactClientAsk': WHATEVER THE INPUT: true; the input reads as it did. -/
def fnExactClientAskSpec : ChangeSpec := { name := "fnExactClientAsk", fn := fun _ => fun
  | [d1, d2] => { results := [.lit (.bool true)], args := [d1, d2] }
  | _ => none }
def fnExactClientAskRow : OpenClaim := { program := "ytgcckeglmhbnmaa", sum := "bc3720f1ff981a33d4b9c376f39ce44d3730f331bf409cd24d5b72eb975c244f", func := "loop.example/g00386/laws.FnExactClientAsk", spec := "fnExactClientAsk", apart := false }
def FnExactClientAskSaid : Prop := fnExactClientAskRow.holds Try.pinned (OpenSpec.ofChange fnExactClientAskSpec)

/-- ITS FALSE NEIGHBOUR: 'it returns false'. Refute it at one input. -/
def fnExactClientAskWrong : ChangeSpec := { name := "fnExactClientAsk", fn := fun _ => fun
  | [d1, d2] => { results := [.lit (.bool false)], args := [d1, d2] }
  | _ => none }
def FnExactClientAskWrongFalsely : Prop := fnExactClientAskRow.holds Try.pinned (OpenSpec.ofChange fnExactClientAskWrong)

/-- 'laws.FnExactSnapRight': WHATEVER THE INPUT: true; the input reads as it did. -/
def fnExactSnapRightSpec : ChangeSpec := { name := "fnExactSnapRight", fn := fun _ => fun
  | [d] => { results := [.lit (.bool true)], args := [d] }
  | _ => none }
def fnExactSnapRightRow : OpenClaim := { program := "ytgcckeglmhbnmaa", sum := "bc3720f1ff981a33d4b9c376f39ce44d3730f331bf409cd24d5b72eb975c244f", func := "loop.example/g00386/laws.FnExactSnapRight", spec := "fnExactSnapRight", unfollowed := true, recurses := true, apart := false }
def FnExactSnapRightSaid : Prop := fnExactSnapRightRow.holds Try.pinned (OpenSpec.ofChange fnExactSnapRightSpec)

/-- ITS FALSE NEIGHBOUR: 'it returns false'. Refute it at one input. -/
def fnExactSnapRightWrong : ChangeSpec := { name := "fnExactSnapRight", fn := fun _ => fun
  | [d] => { results := [.lit (.bool false)], args := [d] }
  | _ => none }
def FnExactSnapRightWrongFalsely : Prop := fnExactSnapRightRow.holds Try.pinned (OpenSpec.ofChange fnExactSnapRightWrong)

/-- 'laws.FnExactClientHear': WHATEVER THE INPUT: true; the input reads as it did. -/
def fnExactClientHearSpec : ChangeSpec := { name := "fnExactClientHear", fn := fun _ => fun
  | [d1, d2, d3] => { results := [.lit (.bool true)], args := [d1, d2, d3] }
  | _ => none }
def fnExactClientHearRow : OpenClaim := { program := "ytgcckeglmhbnmaa", sum := "bc3720f1ff981a33d4b9c376f39ce44d3730f331bf409cd24d5b72eb975c244f", func := "loop.example/g00386/laws.FnExactClientHear", spec := "fnExactClientHear", inPlace := ["slices.overlaps[loop.example/g00386/impl.Heard]"], unfollowed := true, recurses := true, apart := false }
def FnExactClientHearSaid : Prop := fnExactClientHearRow.holds Try.pinned (OpenSpec.ofChange fnExactClientHearSpec)

/-- ITS FALSE NEIGHBOUR: 'it returns false'. Refute it at one input. -/
def fnExactClientHearWrong : ChangeSpec := { name := "fnExactClientHear", fn := fun _ => fun
  | [d1, d2, d3] => { results := [.lit (.bool false)], args := [d1, d2, d3] }
  | _ => none }
def FnExactClientHearWrongFalsely : Prop := fnExactClientHearRow.holds Try.pinned (OpenSpec.ofChange fnExactClientHearWrong)

/- THE SECOND FORM. 'bulk': how many values and letters a reading holds, each counted each time it is reached (what is shared counts as often as it is met; a slice's spare places count too). A statement '..UptoSaid' is the law's where the arguments, and the package variables that the reading takes, are together of bulk at most 1048576: NARROWER than '..Said'. Prove '..Said' where nothing that the law and all that it calls make is longer than what came in: it says more and counts as full. Else prove '..UptoSaid'. A law counts once. -/
mutual
def uptoBulk {H : Type} : DataW H → Nat
  | .lit (.string bytes) => bytes.length + 1
  | .lit _ => 1
  | .nil => 1
  | .ptr d => uptoBulk d + 1
  | .slice elems spare => uptoBulkAll elems + uptoBulkAll spare + 1
  | .agg parts => uptoBulkAll parts + 1
  | .iface _ d => uptoBulk d + 1
  | .map entries => uptoBulkEntries entries + 1
  | .held _ => 1
def uptoBulkAll {H : Type} : List (DataW H) → Nat
  | [] => 0
  | d :: r => uptoBulk d + uptoBulkAll r
def uptoBulkEntries {H : Type} : List (Lit × DataW H) → Nat
  | [] => 0
  | x :: r => uptoBulkEntry x + uptoBulkEntries r
def uptoBulkEntry {H : Type} : Lit × DataW H → Nat
  | (.string bytes, d) => bytes.length + uptoBulk d + 1
  | (_, d) => uptoBulk d + 1
 end
def uptoSmall : (H : Type) → List (DataW H) → Bool := fun _ ds => decide (uptoBulkAll ds ≤ 1048576)
def OpenSpec.upto (s : _root_.Go.ChangeSpec) : _root_.Go.OpenSpec := { _root_.Go.OpenSpec.ofChange s with cond := some uptoSmall }

/-- 'laws.FnExactDeskWords', WHERE WHAT IT READS IS OF BULK AT MOST 1048576: true; the input reads as it did. -/
def fnExactDeskWordsUptoRow : OpenClaim := { program := "ytgcckeglmhbnmaa", sum := "bc3720f1ff981a33d4b9c376f39ce44d3730f331bf409cd24d5b72eb975c244f", func := "loop.example/g00386/laws.FnExactDeskWords", spec := "fnExactDeskWords", apart := false, narrowed := true }
def FnExactDeskWordsUptoSaid : Prop := fnExactDeskWordsUptoRow.holds Try.pinned (OpenSpec.upto fnExactDeskWordsSpec)

/-- 'laws.FnExactChunksOf', WHERE WHAT IT READS IS OF BULK AT MOST 1048576: true; the input reads as it did. -/
def fnExactChunksOfUptoRow : OpenClaim := { program := "ytgcckeglmhbnmaa", sum := "bc3720f1ff981a33d4b9c376f39ce44d3730f331bf409cd24d5b72eb975c244f", func := "loop.example/g00386/laws.FnExactChunksOf", spec := "fnExactChunksOf", apart := false, narrowed := true }
def FnExactChunksOfUptoSaid : Prop := fnExactChunksOfUptoRow.holds Try.pinned (OpenSpec.upto fnExactChunksOfSpec)

/-- 'laws.FnExactClientNew', WHERE WHAT IT READS IS OF BULK AT MOST 1048576: true; the input reads as it did. -/
def fnExactClientNewUptoRow : OpenClaim := { program := "ytgcckeglmhbnmaa", sum := "bc3720f1ff981a33d4b9c376f39ce44d3730f331bf409cd24d5b72eb975c244f", func := "loop.example/g00386/laws.FnExactClientNew", spec := "fnExactClientNew", apart := false, narrowed := true }
def FnExactClientNewUptoSaid : Prop := fnExactClientNewUptoRow.holds Try.pinned (OpenSpec.upto fnExactClientNewSpec)

/-- 'laws.FnExactAgreed', WHERE WHAT IT READS IS OF BULK AT MOST 1048576: true; the input reads as it did. -/
def fnExactAgreedUptoRow : OpenClaim := { program := "ytgcckeglmhbnmaa", sum := "bc3720f1ff981a33d4b9c376f39ce44d3730f331bf409cd24d5b72eb975c244f", func := "loop.example/g00386/laws.FnExactAgreed", spec := "fnExactAgreed", unfollowed := true, recurses := true, apart := false, narrowed := true }
def FnExactAgreedUptoSaid : Prop := fnExactAgreedUptoRow.holds Try.pinned (OpenSpec.upto fnExactAgreedSpec)

/-- 'laws.FnExactClientRight', WHERE WHAT IT READS IS OF BULK AT MOST 1048576: true; the input reads as it did. -/
def fnExactClientRightUptoRow : OpenClaim := { program := "ytgcckeglmhbnmaa", sum := "bc3720f1ff981a33d4b9c376f39ce44d3730f331bf409cd24d5b72eb975c244f", func := "loop.example/g00386/laws.FnExactClientRight", spec := "fnExactClientRight", apart := false, narrowed := true }
def FnExactClientRightUptoSaid : Prop := fnExactClientRightUptoRow.holds Try.pinned (OpenSpec.upto fnExactClientRightSpec)

/-- 'laws.FnExactChunksJoin', WHERE WHAT IT READS IS OF BULK AT MOST 1048576: true; the input reads as it did. -/
def fnExactChunksJoinUptoRow : OpenClaim := { program := "ytgcckeglmhbnmaa", sum := "bc3720f1ff981a33d4b9c376f39ce44d3730f331bf409cd24d5b72eb975c244f", func := "loop.example/g00386/laws.FnExactChunksJoin", spec := "fnExactChunksJoin", inPlace := ["internal/abi.NoEscape", "internal/bytealg.MakeNoZero"], unfollowed := true, recurses := true, apart := false, narrowed := true }
def FnExactChunksJoinUptoSaid : Prop := fnExactChunksJoinUptoRow.holds Try.pinned (OpenSpec.upto fnExactChunksJoinSpec)

/-- 'laws.FnAgreed', WHERE WHAT IT READS IS OF BULK AT MOST 1048576: true; the input reads as it did. -/
def fnAgreedUptoRow : OpenClaim := { program := "ytgcckeglmhbnmaa", sum := "bc3720f1ff981a33d4b9c376f39ce44d3730f331bf409cd24d5b72eb975c244f", func := "loop.example/g00386/laws.FnAgreed", spec := "fnAgreed", unfollowed := true, recurses := true, apart := false, narrowed := true }
def FnAgreedUptoSaid : Prop := fnAgreedUptoRow.holds Try.pinned (OpenSpec.upto fnAgreedSpec)

/-- 'laws.FnChunks', WHERE WHAT IT READS IS OF BULK AT MOST 1048576: true; the input reads as it did. -/
def fnChunksUptoRow : OpenClaim := { program := "ytgcckeglmhbnmaa", sum := "bc3720f1ff981a33d4b9c376f39ce44d3730f331bf409cd24d5b72eb975c244f", func := "loop.example/g00386/laws.FnChunks", spec := "fnChunks", inPlace := ["internal/abi.NoEscape", "internal/bytealg.MakeNoZero"], unfollowed := true, recurses := true, apart := false, narrowed := true }
def FnChunksUptoSaid : Prop := fnChunksUptoRow.holds Try.pinned (OpenSpec.upto fnChunksSpec)

/-- 'laws.FnExactReplicaNew', WHERE WHAT IT READS IS OF BULK AT MOST 1048576: true; the input reads as it did. -/
def fnExactReplicaNewUptoRow : OpenClaim := { program := "ytgcckeglmhbnmaa", sum := "bc3720f1ff981a33d4b9c376f39ce44d3730f331bf409cd24d5b72eb975c244f", func := "loop.example/g00386/laws.FnExactReplicaNew", spec := "fnExactReplicaNew", apart := false, narrowed := true }
def FnExactReplicaNewUptoSaid : Prop := fnExactReplicaNewUptoRow.holds Try.pinned (OpenSpec.upto fnExactReplicaNewSpec)

/-- 'laws.FnExactClientAsk', WHERE WHAT IT READS IS OF BULK AT MOST 1048576: true; the input reads as it did. -/
def fnExactClientAskUptoRow : OpenClaim := { program := "ytgcckeglmhbnmaa", sum := "bc3720f1ff981a33d4b9c376f39ce44d3730f331bf409cd24d5b72eb975c244f", func := "loop.example/g00386/laws.FnExactClientAsk", spec := "fnExactClientAsk", apart := false, narrowed := true }
def FnExactClientAskUptoSaid : Prop := fnExactClientAskUptoRow.holds Try.pinned (OpenSpec.upto fnExactClientAskSpec)

/-- 'laws.FnExactSnapRight', WHERE WHAT IT READS IS OF BULK AT MOST 1048576: true; the input reads as it did. -/
def fnExactSnapRightUptoRow : OpenClaim := { program := "ytgcckeglmhbnmaa", sum := "bc3720f1ff981a33d4b9c376f39ce44d3730f331bf409cd24d5b72eb975c244f", func := "loop.example/g00386/laws.FnExactSnapRight", spec := "fnExactSnapRight", unfollowed := true, recurses := true, apart := false, narrowed := true }
def FnExactSnapRightUptoSaid : Prop := fnExactSnapRightUptoRow.holds Try.pinned (OpenSpec.upto fnExactSnapRightSpec)

/-- 'laws.FnExactClientHear', WHERE WHAT IT READS IS OF BULK AT MOST 1048576: true; the input reads as it did. -/
def fnExactClientHearUptoRow : OpenClaim := { program := "ytgcckeglmhbnmaa", sum := "bc3720f1ff981a33d4b9c376f39ce44d3730f331bf409cd24d5b72eb975c244f", func := "loop.example/g00386/laws.FnExactClientHear", spec := "fnExactClientHear", inPlace := ["slices.overlaps[loop.example/g00386/impl.Heard]"], unfollowed := true, recurses := true, apart := false, narrowed := true }
def FnExactClientHearUptoSaid : Prop := fnExactClientHearUptoRow.holds Try.pinned (OpenSpec.upto fnExactClientHearSpec)

end Rows
end Go.Proofs.Ytgcckeglmhbnmaa
