/-
  No cell of these rows narrows 'for every input' (looked for: loops, veiled, ifaces, maps, wideKeys, modest, calm, conditions, laid).
  DERIVED. THE GIVEN ROWS OF THIS SEAT. 4 by the template 'for every input the law returns true; each argument reads behind the call as it read before'; 0 by the template 'total and deterministic' (their statements: YtdcijleeoihlfaaTotals.lean).
  GIVEN WITH THE SEED: the statements are not yours to turn. If you find one false, say at which input.
  Laid BY PROGRAM, IN A SANDBOX (cutbox-rows.mjs): the forced cells as the released guide's own fill.sh prints them over the translation 5e9fae6c0903db33… (all of the seat's roots in one cut). By AI agents, Wed Nov 11 2026. No macro, syntax, notation, axiom, sorry.
-/
import Derived.Test.YtdcijleeoihlfaaChecked
import GoSem.Claim
import GoSem.ClaimJoined
import GoSem.ClaimMapViews
import Derived.JoinedTies
import Derived.KernelRfl
namespace Go.Proofs.Ytdcijleeoihlfaa
/- THE CELL 'sum', in the pinned program and in every row, IS THE sha256 OF THE DUMP (.gsa) THAT YtdcijleeoihlfaaProg.lean LOADS. Nothing in Lean hashes anything: it is a label: what it is worth is what the hold of that sum in a sandbox is worth. -/
noncomputable def Try.pinned : Pinned := { name := "ytdcijleeoihlfaa", sum := "5e9fae6c0903db33bc5a389962055c3f74cf8eed1d563640018ce76fab8e29b8", checked := Try.checked }
namespace Rows
def none {H : Type} : Left H := { results := [], args := [] }

/-- 'laws.FnExactSnapBytes': WHATEVER THE INPUT: true; the input reads as it did. -/
def fnExactSnapBytesSpec : ChangeSpec := { name := "fnExactSnapBytes", fn := fun _ => fun
  | [d] => { results := [.lit (.bool true)], args := [d] }
  | _ => none }
def fnExactSnapBytesRow : OpenClaim := { program := "ytdcijleeoihlfaa", sum := "5e9fae6c0903db33bc5a389962055c3f74cf8eed1d563640018ce76fab8e29b8", func := "loop.example/g00386/laws.FnExactSnapBytes", spec := "fnExactSnapBytes", unfollowed := true, recurses := true, apart := false }
def FnExactSnapBytesSaid : Prop := fnExactSnapBytesRow.holds Try.pinned (OpenSpec.ofChange fnExactSnapBytesSpec)

/-- ITS FALSE NEIGHBOUR: 'it returns false'. Refute it at one input. -/
def fnExactSnapBytesWrong : ChangeSpec := { name := "fnExactSnapBytes", fn := fun _ => fun
  | [d] => { results := [.lit (.bool false)], args := [d] }
  | _ => none }
def FnExactSnapBytesWrongFalsely : Prop := fnExactSnapBytesRow.holds Try.pinned (OpenSpec.ofChange fnExactSnapBytesWrong)

/-- 'laws.FnExactSayRead': WHATEVER THE INPUT: true; the input reads as it did. -/
def fnExactSayReadSpec : ChangeSpec := { name := "fnExactSayRead", fn := fun _ => fun
  | [d] => { results := [.lit (.bool true)], args := [d] }
  | _ => none }
def fnExactSayReadRow : OpenClaim := { program := "ytdcijleeoihlfaa", sum := "5e9fae6c0903db33bc5a389962055c3f74cf8eed1d563640018ce76fab8e29b8", func := "loop.example/g00386/laws.FnExactSayRead", spec := "fnExactSayRead", apart := false }
def FnExactSayReadSaid : Prop := fnExactSayReadRow.holds Try.pinned (OpenSpec.ofChange fnExactSayReadSpec)

/-- ITS FALSE NEIGHBOUR: 'it returns false'. Refute it at one input. -/
def fnExactSayReadWrong : ChangeSpec := { name := "fnExactSayRead", fn := fun _ => fun
  | [d] => { results := [.lit (.bool false)], args := [d] }
  | _ => none }
def FnExactSayReadWrongFalsely : Prop := fnExactSayReadRow.holds Try.pinned (OpenSpec.ofChange fnExactSayReadWrong)

/-- 'laws.FnExactReplicaRight': WHATEVER THE INPUT: true; the input reads as it did. -/
def fnExactReplicaRightSpec : ChangeSpec := { name := "fnExactReplicaRight", fn := fun _ => fun
  | [d] => { results := [.lit (.bool true)], args := [d] }
  | _ => none }
def fnExactReplicaRightRow : OpenClaim := { program := "ytdcijleeoihlfaa", sum := "5e9fae6c0903db33bc5a389962055c3f74cf8eed1d563640018ce76fab8e29b8", func := "loop.example/g00386/laws.FnExactReplicaRight", spec := "fnExactReplicaRight", unfollowed := true, recurses := true, apart := false }
def FnExactReplicaRightSaid : Prop := fnExactReplicaRightRow.holds Try.pinned (OpenSpec.ofChange fnExactReplicaRightSpec)

/-- ITS FALSE NEIGHBOUR: 'it returns false'. Refute it at one input. -/
def fnExactReplicaRightWrong : ChangeSpec := { name := "fnExactReplicaRight", fn := fun _ => fun
  | [d] => { results := [.lit (.bool false)], args := [d] }
  | _ => none }
def FnExactReplicaRightWrongFalsely : Prop := fnExactReplicaRightRow.holds Try.pinned (OpenSpec.ofChange fnExactReplicaRightWrong)

/-- 'laws.FnExactSnapRead': WHATEVER THE INPUT: true; the input reads as it did. -/
def fnExactSnapReadSpec : ChangeSpec := { name := "fnExactSnapRead", fn := fun _ => fun
  | [d] => { results := [.lit (.bool true)], args := [d] }
  | _ => none }
def fnExactSnapReadRow : OpenClaim := { program := "ytdcijleeoihlfaa", sum := "5e9fae6c0903db33bc5a389962055c3f74cf8eed1d563640018ce76fab8e29b8", func := "loop.example/g00386/laws.FnExactSnapRead", spec := "fnExactSnapRead", unfollowed := true, recurses := true, apart := false }
def FnExactSnapReadSaid : Prop := fnExactSnapReadRow.holds Try.pinned (OpenSpec.ofChange fnExactSnapReadSpec)

/-- ITS FALSE NEIGHBOUR: 'it returns false'. Refute it at one input. -/
def fnExactSnapReadWrong : ChangeSpec := { name := "fnExactSnapRead", fn := fun _ => fun
  | [d] => { results := [.lit (.bool false)], args := [d] }
  | _ => none }
def FnExactSnapReadWrongFalsely : Prop := fnExactSnapReadRow.holds Try.pinned (OpenSpec.ofChange fnExactSnapReadWrong)

/- THE SECOND FORM. 'bulk': how many values and letters a reading holds, each counted each time it is reached (what is shared counts as often as it is met; a slice's spare places count too). A statement '..UptoSaid' is the law's where the arguments, and the package variables that the reading takes, are together of bulk at most 1048576: NARROWER than '..Said'. Prove '..Said' where nothing that the law and all that it calls make is longer than what came in: it says more and counts as full. Else prove '..UptoSaid'. A law counts once. -/
mutual
def uptoBulk {H : Type} : DataW H → Nat
  | .lit (.string bytes) => bytes.length + 1
  | .lit _ => 1
  | .nil => 1
  | .ptr d => uptoBulk d + 1
  | .slice elems spare => uptoBulkAll elems + uptoBulkAll spare + 1
  | .agg parts => uptoBulkAll parts + 1
  | .iface _ d => uptoBulk d + 1
  | .map entries => uptoBulkEntries entries + 1
  | .held _ => 1
def uptoBulkAll {H : Type} : List (DataW H) → Nat
  | [] => 0
  | d :: r => uptoBulk d + uptoBulkAll r
def uptoBulkEntries {H : Type} : List (Lit × DataW H) → Nat
  | [] => 0
  | x :: r => uptoBulkEntry x + uptoBulkEntries r
def uptoBulkEntry {H : Type} : Lit × DataW H → Nat
  | (.string bytes, d) => bytes.length + uptoBulk d + 1
  | (_, d) => uptoBulk d + 1
 end
def uptoSmall : (H : Type) → List (DataW H) → Bool := fun _ ds => decide (uptoBulkAll ds ≤ 1048576)
def OpenSpec.upto (s : _root_.Go.ChangeSpec) : _root_.Go.OpenSpec := { _root_.Go.OpenSpec.ofChange s with cond := some uptoSmall }

/-- 'laws.FnExactSnapBytes', WHERE WHAT IT READS IS OF BULK AT MOST 1048576: true; the input reads as it did. -/
def fnExactSnapBytesUptoRow : OpenClaim := { program := "ytdcijleeoihlfaa", sum := "5e9fae6c0903db33bc5a389962055c3f74cf8eed1d563640018ce76fab8e29b8", func := "loop.example/g00386/laws.FnExactSnapBytes", spec := "fnExactSnapBytes", unfollowed := true, recurses := true, apart := false, narrowed := true }
def FnExactSnapBytesUptoSaid : Prop := fnExactSnapBytesUptoRow.holds Try.pinned (OpenSpec.upto fnExactSnapBytesSpec)

/-- 'laws.FnExactSayRead', WHERE WHAT IT READS IS OF BULK AT MOST 1048576: true; the input reads as it did. -/
def fnExactSayReadUptoRow : OpenClaim := { program := "ytdcijleeoihlfaa", sum := "5e9fae6c0903db33bc5a389962055c3f74cf8eed1d563640018ce76fab8e29b8", func := "loop.example/g00386/laws.FnExactSayRead", spec := "fnExactSayRead", apart := false, narrowed := true }
def FnExactSayReadUptoSaid : Prop := fnExactSayReadUptoRow.holds Try.pinned (OpenSpec.upto fnExactSayReadSpec)

/-- 'laws.FnExactReplicaRight', WHERE WHAT IT READS IS OF BULK AT MOST 1048576: true; the input reads as it did. -/
def fnExactReplicaRightUptoRow : OpenClaim := { program := "ytdcijleeoihlfaa", sum := "5e9fae6c0903db33bc5a389962055c3f74cf8eed1d563640018ce76fab8e29b8", func := "loop.example/g00386/laws.FnExactReplicaRight", spec := "fnExactReplicaRight", unfollowed := true, recurses := true, apart := false, narrowed := true }
def FnExactReplicaRightUptoSaid : Prop := fnExactReplicaRightUptoRow.holds Try.pinned (OpenSpec.upto fnExactReplicaRightSpec)

/-- 'laws.FnExactSnapRead', WHERE WHAT IT READS IS OF BULK AT MOST 1048576: true; the input reads as it did. -/
def fnExactSnapReadUptoRow : OpenClaim := { program := "ytdcijleeoihlfaa", sum := "5e9fae6c0903db33bc5a389962055c3f74cf8eed1d563640018ce76fab8e29b8", func := "loop.example/g00386/laws.FnExactSnapRead", spec := "fnExactSnapRead", unfollowed := true, recurses := true, apart := false, narrowed := true }
def FnExactSnapReadUptoSaid : Prop := fnExactSnapReadUptoRow.holds Try.pinned (OpenSpec.upto fnExactSnapReadSpec)

end Rows
end Go.Proofs.Ytdcijleeoihlfaa
