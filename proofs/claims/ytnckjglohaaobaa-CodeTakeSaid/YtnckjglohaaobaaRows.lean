/-
  NARROWER THAN 'FOR EVERY INPUT', by the rows' own cells (each row's printed sentence says how): CodePut: loops.
  DERIVED. THE GIVEN ROWS OF THIS SEAT. 6 by the template 'for every input the law returns true; each argument reads behind the call as it read before'; 0 by the template 'total and deterministic' (their statements: YtnckjglohaaobaaTotals.lean).
  GIVEN WITH THE SEED: the statements are not yours to turn. If you find one false, say at which input.
  Laid BY PROGRAM, IN A SANDBOX (cutbox-rows.mjs): the forced cells as the released guide's own fill.sh prints them over the translation 80ca5b2bea1d9fcc… (all of the seat's roots in one cut). By AI agents, Wed Nov 11 2026. No macro, syntax, notation, axiom, sorry.
-/
import Derived.Test.YtnckjglohaaobaaChecked
import GoSem.Claim
import GoSem.ClaimJoined
import GoSem.ClaimMapViews
import Derived.JoinedTies
import Derived.KernelRfl
namespace Go.Proofs.Ytnckjglohaaobaa
/- THE CELL 'sum', in the pinned program and in every row, IS THE sha256 OF THE DUMP (.gsa) THAT YtnckjglohaaobaaProg.lean LOADS. Nothing in Lean hashes anything: it is a label: what it is worth is what the hold of that sum in a sandbox is worth. -/
noncomputable def Try.pinned : Pinned := { name := "ytnckjglohaaobaa", sum := "80ca5b2bea1d9fcc8e94e148078ca0da96f15e29868d9857f651b6ef9a84ecb5", checked := Try.checked }
namespace Rows
def none {H : Type} : Left H := { results := [], args := [] }

/-- 'countersignlaw2.CodePut': WHATEVER THE INPUT: true; the input reads as it did. -/
def codePutSpec : ChangeSpec := { name := "codePut", fn := fun _ => fun
  | [d1, d2] => { results := [.lit (.bool true)], args := [d1, d2] }
  | _ => none }
def codePutRow : OpenClaim := { program := "ytnckjglohaaobaa", sum := "80ca5b2bea1d9fcc8e94e148078ca0da96f15e29868d9857f651b6ef9a84ecb5", func := "countersign/countersignlaw2.CodePut", spec := "codePut", unfollowed := true, recurses := true, loops := true, apart := false }
def CodePutSaid : Prop := codePutRow.holds Try.pinned (OpenSpec.ofChange codePutSpec)

/-- ITS FALSE NEIGHBOUR: 'it returns false'. Refute it at one input. -/
def codePutWrong : ChangeSpec := { name := "codePut", fn := fun _ => fun
  | [d1, d2] => { results := [.lit (.bool false)], args := [d1, d2] }
  | _ => none }
def CodePutWrongFalsely : Prop := codePutRow.holds Try.pinned (OpenSpec.ofChange codePutWrong)

/-- 'countersignlaw2.CodeTake': WHATEVER THE INPUT: true; the input reads as it did. -/
def codeTakeSpec : ChangeSpec := { name := "codeTake", fn := fun _ => fun
  | [d1, d2, d3, d4, d5] => { results := [.lit (.bool true)], args := [d1, d2, d3, d4, d5] }
  | _ => none }
def codeTakeRow : OpenClaim := { program := "ytnckjglohaaobaa", sum := "80ca5b2bea1d9fcc8e94e148078ca0da96f15e29868d9857f651b6ef9a84ecb5", func := "countersign/countersignlaw2.CodeTake", spec := "codeTake", unfollowed := true, recurses := true, apart := false }
def CodeTakeSaid : Prop := codeTakeRow.holds Try.pinned (OpenSpec.ofChange codeTakeSpec)

/-- ITS FALSE NEIGHBOUR: 'it returns false'. Refute it at one input. -/
def codeTakeWrong : ChangeSpec := { name := "codeTake", fn := fun _ => fun
  | [d1, d2, d3, d4, d5] => { results := [.lit (.bool false)], args := [d1, d2, d3, d4, d5] }
  | _ => none }
def CodeTakeWrongFalsely : Prop := codeTakeRow.holds Try.pinned (OpenSpec.ofChange codeTakeWrong)

/-- 'countersignlaw2.CodeBack': WHATEVER THE INPUT: true; the input reads as it did. -/
def codeBackSpec : ChangeSpec := { name := "codeBack", fn := fun _ => fun
  | [d1, d2, d3] => { results := [.lit (.bool true)], args := [d1, d2, d3] }
  | _ => none }
def codeBackRow : OpenClaim := { program := "ytnckjglohaaobaa", sum := "80ca5b2bea1d9fcc8e94e148078ca0da96f15e29868d9857f651b6ef9a84ecb5", func := "countersign/countersignlaw2.CodeBack", spec := "codeBack", unfollowed := true, recurses := true, apart := false }
def CodeBackSaid : Prop := codeBackRow.holds Try.pinned (OpenSpec.ofChange codeBackSpec)

/-- ITS FALSE NEIGHBOUR: 'it returns false'. Refute it at one input. -/
def codeBackWrong : ChangeSpec := { name := "codeBack", fn := fun _ => fun
  | [d1, d2, d3] => { results := [.lit (.bool false)], args := [d1, d2, d3] }
  | _ => none }
def CodeBackWrongFalsely : Prop := codeBackRow.holds Try.pinned (OpenSpec.ofChange codeBackWrong)

/-- 'countersignlaw2.CodeApart': WHATEVER THE INPUT: true; the input reads as it did. -/
def codeApartSpec : ChangeSpec := { name := "codeApart", fn := fun _ => fun
  | [d1, d2] => { results := [.lit (.bool true)], args := [d1, d2] }
  | _ => none }
def codeApartRow : OpenClaim := { program := "ytnckjglohaaobaa", sum := "80ca5b2bea1d9fcc8e94e148078ca0da96f15e29868d9857f651b6ef9a84ecb5", func := "countersign/countersignlaw2.CodeApart", spec := "codeApart", unfollowed := true, recurses := true, apart := false }
def CodeApartSaid : Prop := codeApartRow.holds Try.pinned (OpenSpec.ofChange codeApartSpec)

/-- ITS FALSE NEIGHBOUR: 'it returns false'. Refute it at one input. -/
def codeApartWrong : ChangeSpec := { name := "codeApart", fn := fun _ => fun
  | [d1, d2] => { results := [.lit (.bool false)], args := [d1, d2] }
  | _ => none }
def CodeApartWrongFalsely : Prop := codeApartRow.holds Try.pinned (OpenSpec.ofChange codeApartWrong)

/-- 'countersignlaw2.CodeOnly': WHATEVER THE INPUT: true; the input reads as it did. -/
def codeOnlySpec : ChangeSpec := { name := "codeOnly", fn := fun _ => fun
  | [d] => { results := [.lit (.bool true)], args := [d] }
  | _ => none }
def codeOnlyRow : OpenClaim := { program := "ytnckjglohaaobaa", sum := "80ca5b2bea1d9fcc8e94e148078ca0da96f15e29868d9857f651b6ef9a84ecb5", func := "countersign/countersignlaw2.CodeOnly", spec := "codeOnly", unfollowed := true, recurses := true, apart := false }
def CodeOnlySaid : Prop := codeOnlyRow.holds Try.pinned (OpenSpec.ofChange codeOnlySpec)

/-- ITS FALSE NEIGHBOUR: 'it returns false'. Refute it at one input. -/
def codeOnlyWrong : ChangeSpec := { name := "codeOnly", fn := fun _ => fun
  | [d] => { results := [.lit (.bool false)], args := [d] }
  | _ => none }
def CodeOnlyWrongFalsely : Prop := codeOnlyRow.holds Try.pinned (OpenSpec.ofChange codeOnlyWrong)

/-- 'countersignlaw2.CodeDeep': WHATEVER THE INPUT: true; the input reads as it did. -/
def codeDeepSpec : ChangeSpec := { name := "codeDeep", fn := fun _ => fun
  | [d1, d2] => { results := [.lit (.bool true)], args := [d1, d2] }
  | _ => none }
def codeDeepRow : OpenClaim := { program := "ytnckjglohaaobaa", sum := "80ca5b2bea1d9fcc8e94e148078ca0da96f15e29868d9857f651b6ef9a84ecb5", func := "countersign/countersignlaw2.CodeDeep", spec := "codeDeep", unfollowed := true, recurses := true, apart := false }
def CodeDeepSaid : Prop := codeDeepRow.holds Try.pinned (OpenSpec.ofChange codeDeepSpec)

/-- ITS FALSE NEIGHBOUR: 'it returns false'. Refute it at one input. -/
def codeDeepWrong : ChangeSpec := { name := "codeDeep", fn := fun _ => fun
  | [d1, d2] => { results := [.lit (.bool false)], args := [d1, d2] }
  | _ => none }
def CodeDeepWrongFalsely : Prop := codeDeepRow.holds Try.pinned (OpenSpec.ofChange codeDeepWrong)

/- THE SECOND FORM. 'bulk': how many values and letters a reading holds, each counted each time it is reached (what is shared counts as often as it is met; a slice's spare places count too). A statement '..UptoSaid' is the law's where the arguments, and the package variables that the reading takes, are together of bulk at most 1048576: NARROWER than '..Said'. Prove '..Said' where nothing that the law and all that it calls make is longer than what came in: it says more and counts as full. Else prove '..UptoSaid'. A law counts once. -/
mutual
def uptoBulk {H : Type} : DataW H → Nat
  | .lit (.string bytes) => bytes.length + 1
  | .lit _ => 1
  | .nil => 1
  | .ptr d => uptoBulk d + 1
  | .slice elems spare => uptoBulkAll elems + uptoBulkAll spare + 1
  | .agg parts => uptoBulkAll parts + 1
  | .iface _ d => uptoBulk d + 1
  | .map entries => uptoBulkEntries entries + 1
  | .held _ => 1
def uptoBulkAll {H : Type} : List (DataW H) → Nat
  | [] => 0
  | d :: r => uptoBulk d + uptoBulkAll r
def uptoBulkEntries {H : Type} : List (Lit × DataW H) → Nat
  | [] => 0
  | x :: r => uptoBulkEntry x + uptoBulkEntries r
def uptoBulkEntry {H : Type} : Lit × DataW H → Nat
  | (.string bytes, d) => bytes.length + uptoBulk d + 1
  | (_, d) => uptoBulk d + 1
 end
def uptoSmall : (H : Type) → List (DataW H) → Bool := fun _ ds => decide (uptoBulkAll ds ≤ 1048576)
def OpenSpec.upto (s : _root_.Go.ChangeSpec) : _root_.Go.OpenSpec := { _root_.Go.OpenSpec.ofChange s with cond := some uptoSmall }

/-- 'countersignlaw2.CodePut', WHERE WHAT IT READS IS OF BULK AT MOST 1048576: true; the input reads as it did. -/
def codePutUptoRow : OpenClaim := { program := "ytnckjglohaaobaa", sum := "80ca5b2bea1d9fcc8e94e148078ca0da96f15e29868d9857f651b6ef9a84ecb5", func := "countersign/countersignlaw2.CodePut", spec := "codePut", unfollowed := true, recurses := true, loops := true, apart := false, narrowed := true }
def CodePutUptoSaid : Prop := codePutUptoRow.holds Try.pinned (OpenSpec.upto codePutSpec)

/-- 'countersignlaw2.CodeTake', WHERE WHAT IT READS IS OF BULK AT MOST 1048576: true; the input reads as it did. -/
def codeTakeUptoRow : OpenClaim := { program := "ytnckjglohaaobaa", sum := "80ca5b2bea1d9fcc8e94e148078ca0da96f15e29868d9857f651b6ef9a84ecb5", func := "countersign/countersignlaw2.CodeTake", spec := "codeTake", unfollowed := true, recurses := true, apart := false, narrowed := true }
def CodeTakeUptoSaid : Prop := codeTakeUptoRow.holds Try.pinned (OpenSpec.upto codeTakeSpec)

/-- 'countersignlaw2.CodeBack', WHERE WHAT IT READS IS OF BULK AT MOST 1048576: true; the input reads as it did. -/
def codeBackUptoRow : OpenClaim := { program := "ytnckjglohaaobaa", sum := "80ca5b2bea1d9fcc8e94e148078ca0da96f15e29868d9857f651b6ef9a84ecb5", func := "countersign/countersignlaw2.CodeBack", spec := "codeBack", unfollowed := true, recurses := true, apart := false, narrowed := true }
def CodeBackUptoSaid : Prop := codeBackUptoRow.holds Try.pinned (OpenSpec.upto codeBackSpec)

/-- 'countersignlaw2.CodeApart', WHERE WHAT IT READS IS OF BULK AT MOST 1048576: true; the input reads as it did. -/
def codeApartUptoRow : OpenClaim := { program := "ytnckjglohaaobaa", sum := "80ca5b2bea1d9fcc8e94e148078ca0da96f15e29868d9857f651b6ef9a84ecb5", func := "countersign/countersignlaw2.CodeApart", spec := "codeApart", unfollowed := true, recurses := true, apart := false, narrowed := true }
def CodeApartUptoSaid : Prop := codeApartUptoRow.holds Try.pinned (OpenSpec.upto codeApartSpec)

/-- 'countersignlaw2.CodeOnly', WHERE WHAT IT READS IS OF BULK AT MOST 1048576: true; the input reads as it did. -/
def codeOnlyUptoRow : OpenClaim := { program := "ytnckjglohaaobaa", sum := "80ca5b2bea1d9fcc8e94e148078ca0da96f15e29868d9857f651b6ef9a84ecb5", func := "countersign/countersignlaw2.CodeOnly", spec := "codeOnly", unfollowed := true, recurses := true, apart := false, narrowed := true }
def CodeOnlyUptoSaid : Prop := codeOnlyUptoRow.holds Try.pinned (OpenSpec.upto codeOnlySpec)

/-- 'countersignlaw2.CodeDeep', WHERE WHAT IT READS IS OF BULK AT MOST 1048576: true; the input reads as it did. -/
def codeDeepUptoRow : OpenClaim := { program := "ytnckjglohaaobaa", sum := "80ca5b2bea1d9fcc8e94e148078ca0da96f15e29868d9857f651b6ef9a84ecb5", func := "countersign/countersignlaw2.CodeDeep", spec := "codeDeep", unfollowed := true, recurses := true, apart := false, narrowed := true }
def CodeDeepUptoSaid : Prop := codeDeepUptoRow.holds Try.pinned (OpenSpec.upto codeDeepSpec)

end Rows
end Go.Proofs.Ytnckjglohaaobaa
