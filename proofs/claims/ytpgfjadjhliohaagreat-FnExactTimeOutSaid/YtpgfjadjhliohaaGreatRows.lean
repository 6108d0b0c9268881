/-
  No cell of these rows narrows 'for every input' (looked for: loops, veiled, ifaces, maps, wideKeys, modest, calm, conditions, laid).
  DERIVED. THE GIVEN ROWS OF THIS SEAT. 4 by the template 'for every input the law returns true; each argument reads behind the call as it read before'; 0 by the template 'total and deterministic' (their statements: YtpgfjadjhliohaaGreatTotals.lean).
  GIVEN WITH THE SEED: the statements are not yours to turn. If you find one false, say at which input.
  Laid BY PROGRAM, IN A SANDBOX (cutbox-rows.mjs): the forced cells as the released guide's own fill.sh prints them over the translation ab17513469df3691… (all of the seat's roots in one cut). By AI agents, Wed Nov 11 2026. No macro, syntax, notation, axiom, sorry.
-/
import Derived.Test.YtpgfjadjhliohaaGreatChecked
import GoSem.Claim
import GoSem.ClaimJoined
import GoSem.ClaimMapViews
import Derived.JoinedTies
import Derived.KernelRfl
namespace Go.Proofs.YtpgfjadjhliohaaGreat
/- THE CELL 'sum', in the pinned program and in every row, IS THE sha256 OF THE DUMP (.gsa) THAT YtpgfjadjhliohaaGreatProg.lean LOADS. Nothing in Lean hashes anything: it is a label: what it is worth is what the hold of that sum in a sandbox is worth. -/
noncomputable def Tryz.pinned : Pinned := { name := "ytpgfjadjhliohaagreat", sum := "ab17513469df36915213209ca01c3abfb46c72efd68a269c17fe00bbbadbe3ae", checked := Tryz.checked }
namespace Rows
def none {H : Type} : Left H := { results := [], args := [] }

/-- 'laws.FnExactRepeat': WHATEVER THE INPUT: true; the input reads as it did. -/
def fnExactRepeatSpec : ChangeSpec := { name := "fnExactRepeat", fn := fun _ => fun
  | [d] => { results := [.lit (.bool true)], args := [d] }
  | _ => none }
def fnExactRepeatRow : OpenClaim := { program := "ytpgfjadjhliohaagreat", sum := "ab17513469df36915213209ca01c3abfb46c72efd68a269c17fe00bbbadbe3ae", func := "loop.example/g00386/laws.FnExactRepeat", spec := "fnExactRepeat", unfollowed := true, recurses := true, apart := false }
def FnExactRepeatSaid : Prop := fnExactRepeatRow.holds Tryz.pinned (OpenSpec.ofChange fnExactRepeatSpec)

/-- ITS FALSE NEIGHBOUR: 'it returns false'. Refute it at one input. -/
def fnExactRepeatWrong : ChangeSpec := { name := "fnExactRepeat", fn := fun _ => fun
  | [d] => { results := [.lit (.bool false)], args := [d] }
  | _ => none }
def FnExactRepeatWrongFalsely : Prop := fnExactRepeatRow.holds Tryz.pinned (OpenSpec.ofChange fnExactRepeatWrong)

/-- 'laws.FnExactAsk': WHATEVER THE INPUT: true; the input reads as it did. -/
def fnExactAskSpec : ChangeSpec := { name := "fnExactAsk", fn := fun _ => fun
  | [d1, d2] => { results := [.lit (.bool true)], args := [d1, d2] }
  | _ => none }
def fnExactAskRow : OpenClaim := { program := "ytpgfjadjhliohaagreat", sum := "ab17513469df36915213209ca01c3abfb46c72efd68a269c17fe00bbbadbe3ae", func := "loop.example/g00386/laws.FnExactAsk", spec := "fnExactAsk", unfollowed := true, recurses := true, apart := false }
def FnExactAskSaid : Prop := fnExactAskRow.holds Tryz.pinned (OpenSpec.ofChange fnExactAskSpec)

/-- ITS FALSE NEIGHBOUR: 'it returns false'. Refute it at one input. -/
def fnExactAskWrong : ChangeSpec := { name := "fnExactAsk", fn := fun _ => fun
  | [d1, d2] => { results := [.lit (.bool false)], args := [d1, d2] }
  | _ => none }
def FnExactAskWrongFalsely : Prop := fnExactAskRow.holds Tryz.pinned (OpenSpec.ofChange fnExactAskWrong)

/-- 'laws.FnExactHear': WHATEVER THE INPUT: true; the input reads as it did. -/
def fnExactHearSpec : ChangeSpec := { name := "fnExactHear", fn := fun _ => fun
  | [d1, d2] => { results := [.lit (.bool true)], args := [d1, d2] }
  | _ => none }
def fnExactHearRow : OpenClaim := { program := "ytpgfjadjhliohaagreat", sum := "ab17513469df36915213209ca01c3abfb46c72efd68a269c17fe00bbbadbe3ae", func := "loop.example/g00386/laws.FnExactHear", spec := "fnExactHear", unfollowed := true, recurses := true, apart := false }
def FnExactHearSaid : Prop := fnExactHearRow.holds Tryz.pinned (OpenSpec.ofChange fnExactHearSpec)

/-- ITS FALSE NEIGHBOUR: 'it returns false'. Refute it at one input. -/
def fnExactHearWrong : ChangeSpec := { name := "fnExactHear", fn := fun _ => fun
  | [d1, d2] => { results := [.lit (.bool false)], args := [d1, d2] }
  | _ => none }
def FnExactHearWrongFalsely : Prop := fnExactHearRow.holds Tryz.pinned (OpenSpec.ofChange fnExactHearWrong)

/-- 'laws.FnExactTimeOut': WHATEVER THE INPUT: true; the input reads as it did. -/
def fnExactTimeOutSpec : ChangeSpec := { name := "fnExactTimeOut", fn := fun _ => fun
  | [d] => { results := [.lit (.bool true)], args := [d] }
  | _ => none }
def fnExactTimeOutRow : OpenClaim := { program := "ytpgfjadjhliohaagreat", sum := "ab17513469df36915213209ca01c3abfb46c72efd68a269c17fe00bbbadbe3ae", func := "loop.example/g00386/laws.FnExactTimeOut", spec := "fnExactTimeOut", unfollowed := true, recurses := true, apart := false }
def FnExactTimeOutSaid : Prop := fnExactTimeOutRow.holds Tryz.pinned (OpenSpec.ofChange fnExactTimeOutSpec)

/-- ITS FALSE NEIGHBOUR: 'it returns false'. Refute it at one input. -/
def fnExactTimeOutWrong : ChangeSpec := { name := "fnExactTimeOut", fn := fun _ => fun
  | [d] => { results := [.lit (.bool false)], args := [d] }
  | _ => none }
def FnExactTimeOutWrongFalsely : Prop := fnExactTimeOutRow.holds Tryz.pinned (OpenSpec.ofChange fnExactTimeOutWrong)

/- THE SECOND FORM. 'bulk': how many values and letters a reading holds, each counted each time it is reached (what is shared counts as often as it is met; a slice's spare places count too). A statement '..UptoSaid' is the law's where the arguments, and the package variables that the reading takes, are together of bulk at most 1048576: NARROWER than '..Said'. Prove '..Said' where nothing that the law and all that it calls make is longer than what came in: it says more and counts as full. Else prove '..UptoSaid'. A law counts once. -/
mutual
def uptoBulk {H : Type} : DataW H → Nat
  | .lit (.string bytes) => bytes.length + 1
  | .lit _ => 1
  | .nil => 1
  | .ptr d => uptoBulk d + 1
  | .slice elems spare => uptoBulkAll elems + uptoBulkAll spare + 1
  | .agg parts => uptoBulkAll parts + 1
  | .iface _ d => uptoBulk d + 1
  | .map entries => uptoBulkEntries entries + 1
  | .held _ => 1
def uptoBulkAll {H : Type} : List (DataW H) → Nat
  | [] => 0
  | d :: r => uptoBulk d + uptoBulkAll r
def uptoBulkEntries {H : Type} : List (Lit × DataW H) → Nat
  | [] => 0
  | x :: r => uptoBulkEntry x + uptoBulkEntries r
def uptoBulkEntry {H : Type} : Lit × DataW H → Nat
  | (.string bytes, d) => bytes.length + uptoBulk d + 1
  | (_, d) => uptoBulk d + 1
 end
def uptoSmall : (H : Type) → List (DataW H) → Bool := fun _ ds => decide (uptoBulkAll ds ≤ 1048576)
def OpenSpec.upto (s : _root_.Go.ChangeSpec) : _root_.Go.OpenSpec := { _root_.Go.OpenSpec.ofChange s with cond := some uptoSmall }

/-- 'laws.FnExactRepeat', WHERE WHAT IT READS IS OF BULK AT MOST 1048576: true; the input reads as it did. -/
def fnExactRepeatUptoRow : OpenClaim := { program := "ytpgfjadjhliohaagreat", sum := "ab17513469df36915213209ca01c3abfb46c72efd68a269c17fe00bbbadbe3ae", func := "loop.example/g00386/laws.FnExactRepeat", spec := "fnExactRepeat", unfollowed := true, recurses := true, apart := false, narrowed := true }
def FnExactRepeatUptoSaid : Prop := fnExactRepeatUptoRow.holds Tryz.pinned (OpenSpec.upto fnExactRepeatSpec)

/-- 'laws.FnExactAsk', WHERE WHAT IT READS IS OF BULK AT MOST 1048576: true; the input reads as it did. -/
def fnExactAskUptoRow : OpenClaim := { program := "ytpgfjadjhliohaagreat", sum := "ab17513469df36915213209ca01c3abfb46c72efd68a269c17fe00bbbadbe3ae", func := "loop.example/g00386/laws.FnExactAsk", spec := "fnExactAsk", unfollowed := true, recurses := true, apart := false, narrowed := true }
def FnExactAskUptoSaid : Prop := fnExactAskUptoRow.holds Tryz.pinned (OpenSpec.upto fnExactAskSpec)

/-- 'laws.FnExactHear', WHERE WHAT IT READS IS OF BULK AT MOST 1048576: true; the input reads as it did. -/
def fnExactHearUptoRow : OpenClaim := { program := "ytpgfjadjhliohaagreat", sum := "ab17513469df36915213209ca01c3abfb46c72efd68a269c17fe00bbbadbe3ae", func := "loop.example/g00386/laws.FnExactHear", spec := "fnExactHear", unfollowed := true, recurses := true, apart := false, narrowed := true }
def FnExactHearUptoSaid : Prop := fnExactHearUptoRow.holds Tryz.pinned (OpenSpec.upto fnExactHearSpec)

/-- 'laws.FnExactTimeOut', WHERE WHAT IT READS IS OF BULK AT MOST 1048576: true; the input reads as it did. -/
def fnExactTimeOutUptoRow : OpenClaim := { program := "ytpgfjadjhliohaagreat", sum := "ab17513469df36915213209ca01c3abfb46c72efd68a269c17fe00bbbadbe3ae", func := "loop.example/g00386/laws.FnExactTimeOut", spec := "fnExactTimeOut", unfollowed := true, recurses := true, apart := false, narrowed := true }
def FnExactTimeOutUptoSaid : Prop := fnExactTimeOutUptoRow.holds Tryz.pinned (OpenSpec.upto fnExactTimeOutSpec)

end Rows
end Go.Proofs.YtpgfjadjhliohaaGreat
