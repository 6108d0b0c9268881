/-
  No cell of these rows narrows 'for every input' (looked for: loops, veiled, ifaces, maps, wideKeys, modest, calm, conditions, laid).
  DERIVED. THE GIVEN ROWS OF THIS SEAT. 6 by the template 'for every input the law returns true; each argument reads behind the call as it read before'; 0 by the template 'total and deterministic' (their statements: YtanienlcebkijaaTotals.lean).
  GIVEN WITH THE SEED: the statements are not yours to turn. If you find one false, say at which input.
  Laid BY PROGRAM, IN A SANDBOX (cutbox-rows.mjs): the forced cells as the released guide's own fill.sh prints them over the translation 6050b82fb7100a5c… (all of the seat's roots in one cut). By AI agents, Wed Nov 11 2026. No macro, syntax, notation, axiom, sorry.
-/
import Derived.Test.YtanienlcebkijaaChecked
import GoSem.Claim
import GoSem.ClaimJoined
import GoSem.ClaimMapViews
import Derived.JoinedTies
import Derived.KernelRfl
namespace Go.Proofs.Ytanienlcebkijaa
/- THE CELL 'sum', in the pinned program and in every row, IS THE sha256 OF THE DUMP (.gsa) THAT YtanienlcebkijaaProg.lean LOADS. Nothing in Lean hashes anything: it is a label: what it is worth is what the hold of that sum in a sandbox is worth. -/
noncomputable def Try.pinned : Pinned := { name := "ytanienlcebkijaa", sum := "6050b82fb7100a5cf1ed04ff705981bd3ff0dbca703d09ce91fc21d6b5cab763", checked := Try.checked }
namespace Rows
def none {H : Type} : Left H := { results := [], args := [] }

/-- 'laws.FnAgreed': WHATEVER THE INPUT: true; the input reads as it did. -/
def fnAgreedSpec : ChangeSpec := { name := "fnAgreed", fn := fun _ => fun
  | [d] => { results := [.lit (.bool true)], args := [d] }
  | _ => none }
def fnAgreedRow : OpenClaim := { program := "ytanienlcebkijaa", sum := "6050b82fb7100a5cf1ed04ff705981bd3ff0dbca703d09ce91fc21d6b5cab763", func := "loop.example/g00386/laws.FnAgreed", spec := "fnAgreed", unfollowed := true, recurses := true, apart := false }
def FnAgreedSaid : Prop := fnAgreedRow.holds Try.pinned (OpenSpec.ofChange fnAgreedSpec)

/-- ITS FALSE NEIGHBOUR: 'it returns false'. Refute it at one input. -/
def fnAgreedWrong : ChangeSpec := { name := "fnAgreed", fn := fun _ => fun
  | [d] => { results := [.lit (.bool false)], args := [d] }
  | _ => none }
def FnAgreedWrongFalsely : Prop := fnAgreedRow.holds Try.pinned (OpenSpec.ofChange fnAgreedWrong)

/-- 'laws.FnChunks': WHATEVER THE INPUT: true; the input reads as it did. -/
def fnChunksSpec : ChangeSpec := { name := "fnChunks", fn := fun _ => fun
  | [d1, d2] => { results := [.lit (.bool true)], args := [d1, d2] }
  | _ => none }
def fnChunksRow : OpenClaim := { program := "ytanienlcebkijaa", sum := "6050b82fb7100a5cf1ed04ff705981bd3ff0dbca703d09ce91fc21d6b5cab763", func := "loop.example/g00386/laws.FnChunks", spec := "fnChunks", inPlace := ["internal/abi.NoEscape", "internal/bytealg.MakeNoZero"], unfollowed := true, recurses := true, apart := false }
def FnChunksSaid : Prop := fnChunksRow.holds Try.pinned (OpenSpec.ofChange fnChunksSpec)

/-- ITS FALSE NEIGHBOUR: 'it returns false'. Refute it at one input. -/
def fnChunksWrong : ChangeSpec := { name := "fnChunks", fn := fun _ => fun
  | [d1, d2] => { results := [.lit (.bool false)], args := [d1, d2] }
  | _ => none }
def FnChunksWrongFalsely : Prop := fnChunksRow.holds Try.pinned (OpenSpec.ofChange fnChunksWrong)

/-- 'laws.FnExactClientHear': WHATEVER THE INPUT: true; the input reads as it did. -/
def fnExactClientHearSpec : ChangeSpec := { name := "fnExactClientHear", fn := fun _ => fun
  | [d1, d2, d3] => { results := [.lit (.bool true)], args := [d1, d2, d3] }
  | _ => none }
def fnExactClientHearRow : OpenClaim := { program := "ytanienlcebkijaa", sum := "6050b82fb7100a5cf1ed04ff705981bd3ff0dbca703d09ce91fc21d6b5cab763", func := "loop.example/g00386/laws.FnExactClientHear", spec := "fnExactClientHear", inPlace := ["slices.overlaps[loop.example/g00386/impl.Heard]"], unfollowed := true, recurses := true, apart := false }
def FnExactClientHearSaid : Prop := fnExactClientHearRow.holds Try.pinned (OpenSpec.ofChange fnExactClientHearSpec)

/-- ITS FALSE NEIGHBOUR: 'it returns false'. Refute it at one input. -/
def fnExactClientHearWrong : ChangeSpec := { name := "fnExactClientHear", fn := fun _ => fun
  | [d1, d2, d3] => { results := [.lit (.bool false)], args := [d1, d2, d3] }
  | _ => none }
def FnExactClientHearWrongFalsely : Prop := fnExactClientHearRow.holds Try.pinned (OpenSpec.ofChange fnExactClientHearWrong)

/-- 'laws.FnSay': WHATEVER THE INPUT: true; the input reads as it did. -/
def fnSaySpec : ChangeSpec := { name := "fnSay", fn := fun _ => fun
  | [d1, d2] => { results := [.lit (.bool true)], args := [d1, d2] }
  | _ => none }
def fnSayRow : OpenClaim := { program := "ytanienlcebkijaa", sum := "6050b82fb7100a5cf1ed04ff705981bd3ff0dbca703d09ce91fc21d6b5cab763", func := "loop.example/g00386/laws.FnSay", spec := "fnSay", apart := false }
def FnSaySaid : Prop := fnSayRow.holds Try.pinned (OpenSpec.ofChange fnSaySpec)

/-- ITS FALSE NEIGHBOUR: 'it returns false'. Refute it at one input. -/
def fnSayWrong : ChangeSpec := { name := "fnSay", fn := fun _ => fun
  | [d1, d2] => { results := [.lit (.bool false)], args := [d1, d2] }
  | _ => none }
def FnSayWrongFalsely : Prop := fnSayRow.holds Try.pinned (OpenSpec.ofChange fnSayWrong)

/-- 'laws.FnExactReplicaRight': WHATEVER THE INPUT: true; the input reads as it did. -/
def fnExactReplicaRightSpec : ChangeSpec := { name := "fnExactReplicaRight", fn := fun _ => fun
  | [d] => { results := [.lit (.bool true)], args := [d] }
  | _ => none }
def fnExactReplicaRightRow : OpenClaim := { program := "ytanienlcebkijaa", sum := "6050b82fb7100a5cf1ed04ff705981bd3ff0dbca703d09ce91fc21d6b5cab763", func := "loop.example/g00386/laws.FnExactReplicaRight", spec := "fnExactReplicaRight", unfollowed := true, recurses := true, apart := false }
def FnExactReplicaRightSaid : Prop := fnExactReplicaRightRow.holds Try.pinned (OpenSpec.ofChange fnExactReplicaRightSpec)

/-- ITS FALSE NEIGHBOUR: 'it returns false'. Refute it at one input. -/
def fnExactReplicaRightWrong : ChangeSpec := { name := "fnExactReplicaRight", fn := fun _ => fun
  | [d] => { results := [.lit (.bool false)], args := [d] }
  | _ => none }
def FnExactReplicaRightWrongFalsely : Prop := fnExactReplicaRightRow.holds Try.pinned (OpenSpec.ofChange fnExactReplicaRightWrong)

/-- 'laws.FnClient': WHATEVER THE INPUT: true; the input reads as it did. -/
def fnClientSpec : ChangeSpec := { name := "fnClient", fn := fun _ => fun
  | [d1, d2] => { results := [.lit (.bool true)], args := [d1, d2] }
  | _ => none }
def fnClientRow : OpenClaim := { program := "ytanienlcebkijaa", sum := "6050b82fb7100a5cf1ed04ff705981bd3ff0dbca703d09ce91fc21d6b5cab763", func := "loop.example/g00386/laws.FnClient", spec := "fnClient", inPlace := ["slices.overlaps[loop.example/g00386/impl.Heard]"], unfollowed := true, recurses := true, apart := false }
def FnClientSaid : Prop := fnClientRow.holds Try.pinned (OpenSpec.ofChange fnClientSpec)

/-- ITS FALSE NEIGHBOUR: 'it returns false'. Refute it at one input. -/
def fnClientWrong : ChangeSpec := { name := "fnClient", fn := fun _ => fun
  | [d1, d2] => { results := [.lit (.bool false)], args := [d1, d2] }
  | _ => none }
def FnClientWrongFalsely : Prop := fnClientRow.holds Try.pinned (OpenSpec.ofChange fnClientWrong)

/- THE SECOND FORM. 'bulk': how many values and letters a reading holds, each counted each time it is reached (what is shared counts as often as it is met; a slice's spare places count too). A statement '..UptoSaid' is the law's where the arguments, and the package variables that the reading takes, are together of bulk at most 1048576: NARROWER than '..Said'. Prove '..Said' where nothing that the law and all that it calls make is longer than what came in: it says more and counts as full. Else prove '..UptoSaid'. A law counts once. -/
mutual
def uptoBulk {H : Type} : DataW H → Nat
  | .lit (.string bytes) => bytes.length + 1
  | .lit _ => 1
  | .nil => 1
  | .ptr d => uptoBulk d + 1
  | .slice elems spare => uptoBulkAll elems + uptoBulkAll spare + 1
  | .agg parts => uptoBulkAll parts + 1
  | .iface _ d => uptoBulk d + 1
  | .map entries => uptoBulkEntries entries + 1
  | .held _ => 1
def uptoBulkAll {H : Type} : List (DataW H) → Nat
  | [] => 0
  | d :: r => uptoBulk d + uptoBulkAll r
def uptoBulkEntries {H : Type} : List (Lit × DataW H) → Nat
  | [] => 0
  | x :: r => uptoBulkEntry x + uptoBulkEntries r
def uptoBulkEntry {H : Type} : Lit × DataW H → Nat
  | (.string bytes, d) => bytes.length + uptoBulk d + 1
  | (_, d) => uptoBulk d + 1
 end
def uptoSmall : (H : Type) → List (DataW H) → Bool := fun _ ds => decide (uptoBulkAll ds ≤ 1048576)
def OpenSpec.upto (s : _root_.Go.ChangeSpec) : _root_.Go.OpenSpec := { _root_.Go.OpenSpec.ofChange s with cond := some uptoSmall }

/-- 'laws.FnAgreed', WHERE WHAT IT READS IS OF BULK AT MOST 1048576: true; the input reads as it did. -/
def fnAgreedUptoRow : OpenClaim := { program := "ytanienlcebkijaa", sum := "6050b82fb7100a5cf1ed04ff705981bd3ff0dbca703d09ce91fc21d6b5cab763", func := "loop.example/g00386/laws.FnAgreed", spec := "fnAgreed", unfollowed := true, recurses := true, apart := false, narrowed := true }
def FnAgreedUptoSaid : Prop := fnAgreedUptoRow.holds Try.pinned (OpenSpec.upto fnAgreedSpec)

/-- 'laws.FnChunks', WHERE WHAT IT READS IS OF BULK AT MOST 1048576: true; the input reads as it did. -/
def fnChunksUptoRow : OpenClaim := { program := "ytanienlcebkijaa", sum := "6050b82fb7100a5cf1ed04ff705981bd3ff0dbca703d09ce91fc21d6b5cab763", func := "loop.example/g00386/laws.FnChunks", spec := "fnChunks", inPlace := ["internal/abi.NoEscape", "internal/bytealg.MakeNoZero"], unfollowed := true, recurses := true, apart := false, narrowed := true }
def FnChunksUptoSaid : Prop := fnChunksUptoRow.holds Try.pinned (OpenSpec.upto fnChunksSpec)

/-- 'laws.FnExactClientHear', WHERE WHAT IT READS IS OF BULK AT MOST 1048576: true; the input reads as it did. -/
def fnExactClientHearUptoRow : OpenClaim := { program := "ytanienlcebkijaa", sum := "6050b82fb7100a5cf1ed04ff705981bd3ff0dbca703d09ce91fc21d6b5cab763", func := "loop.example/g00386/laws.FnExactClientHear", spec := "fnExactClientHear", inPlace := ["slices.overlaps[loop.example/g00386/impl.Heard]"], unfollowed := true, recurses := true, apart := false, narrowed := true }
def FnExactClientHearUptoSaid : Prop := fnExactClientHearUptoRow.holds Try.pinned (OpenSpec.upto fnExactClientHearSpec)

/-- 'laws.FnSay', WHERE WHAT IT READS IS OF BULK AT MOST 1048576: true; the input reads as it did. -/
def fnSayUptoRow : OpenClaim := { program := "ytanienlcebkijaa", sum := "6050b82fb7100a5cf1ed04ff705981bd3ff0dbca703d09ce91fc21d6b5cab763", func := "loop.example/g00386/laws.FnSay", spec := "fnSay", apart := false, narrowed := true }
def FnSayUptoSaid : Prop := fnSayUptoRow.holds Try.pinned (OpenSpec.upto fnSaySpec)

/-- 'laws.FnExactReplicaRight', WHERE WHAT IT READS IS OF BULK AT MOST 1048576: true; the input reads as it did. -/
def fnExactReplicaRightUptoRow : OpenClaim := { program := "ytanienlcebkijaa", sum := "6050b82fb7100a5cf1ed04ff705981bd3ff0dbca703d09ce91fc21d6b5cab763", func := "loop.example/g00386/laws.FnExactReplicaRight", spec := "fnExactReplicaRight", unfollowed := true, recurses := true, apart := false, narrowed := true }
def FnExactReplicaRightUptoSaid : Prop := fnExactReplicaRightUptoRow.holds Try.pinned (OpenSpec.upto fnExactReplicaRightSpec)

/-- 'laws.FnClient', WHERE WHAT IT READS IS OF BULK AT MOST 1048576: true; the input reads as it did. -/
def fnClientUptoRow : OpenClaim := { program := "ytanienlcebkijaa", sum := "6050b82fb7100a5cf1ed04ff705981bd3ff0dbca703d09ce91fc21d6b5cab763", func := "loop.example/g00386/laws.FnClient", spec := "fnClient", inPlace := ["slices.overlaps[loop.example/g00386/impl.Heard]"], unfollowed := true, recurses := true, apart := false, narrowed := true }
def FnClientUptoSaid : Prop := fnClientUptoRow.holds Try.pinned (OpenSpec.upto fnClientSpec)

end Rows
end Go.Proofs.Ytanienlcebkijaa
