/-
  No cell of these rows narrows 'for every input' (looked for: loops, veiled, ifaces, maps, wideKeys, modest, calm, conditions, laid).
  DERIVED. THE GIVEN ROWS OF THIS SEAT. 2 by the template 'for every input the law returns true; each argument reads behind the call as it read before'; 0 by the template 'total and deterministic' (their statements: YtekpdkjkkglcjaaTotals.lean).
  GIVEN WITH THE SEED: the statements are not yours to turn. If you find one false, say at which input.
  Laid BY PROGRAM, IN A SANDBOX (cutbox-rows.mjs): the forced cells as the released guide's own fill.sh prints them over the translation 5808fbe20c5770c6… (all of the seat's roots in one cut). By AI agents, Wed Nov 11 2026. No macro, syntax, notation, axiom, sorry.
-/
import Derived.Test.YtekpdkjkkglcjaaChecked
import GoSem.Claim
import GoSem.ClaimJoined
import GoSem.ClaimMapViews
import Derived.JoinedTies
import Derived.KernelRfl
namespace Go.Proofs.Ytekpdkjkkglcjaa
/- THE CELL 'sum', in the pinned program and in every row, IS THE sha256 OF THE DUMP (.gsa) THAT YtekpdkjkkglcjaaProg.lean LOADS. Nothing in Lean hashes anything: it is a label: what it is worth is what the hold of that sum in a sandbox is worth. -/
noncomputable def Try.pinned : Pinned := { name := "ytekpdkjkkglcjaa", sum := "5808fbe20c5770c60f117d842169ba2c027e1d2abe2a473a75b1b327ac4bf374", checked := Try.checked }
namespace Rows
def none {H : Type} : Left H := { results := [], args := [] }

/-- 'countersignlaw18.PkceAll': WHATEVER THE INPUT: true; the input reads as it did. -/
def pkceAllSpec : ChangeSpec := { name := "pkceAll", fn := fun _ => fun
  | [d1, d2, d3] => { results := [.lit (.bool true)], args := [d1, d2, d3] }
  | _ => none }
def pkceAllRow : OpenClaim := { program := "ytekpdkjkkglcjaa", sum := "5808fbe20c5770c60f117d842169ba2c027e1d2abe2a473a75b1b327ac4bf374", func := "countersign/countersignlaw18.PkceAll", spec := "pkceAll", inPlace := ["internal/bytealg.IndexByteString", "internal/abi.NoEscape"], unfollowed := true, recurses := true, apart := false }
def PkceAllSaid : Prop := pkceAllRow.holds Try.pinned (OpenSpec.ofChange pkceAllSpec)

/-- ITS FALSE NEIGHBOUR: 'it returns false'. Refute it at one input. -/
def pkceAllWrong : ChangeSpec := { name := "pkceAll", fn := fun _ => fun
  | [d1, d2, d3] => { results := [.lit (.bool false)], args := [d1, d2, d3] }
  | _ => none }
def PkceAllWrongFalsely : Prop := pkceAllRow.holds Try.pinned (OpenSpec.ofChange pkceAllWrong)

/-- 'countersignlaw18.PkceOne': WHATEVER THE INPUT: true; the input reads as it did. -/
def pkceOneSpec : ChangeSpec := { name := "pkceOne", fn := fun _ => fun
  | [d1, d2] => { results := [.lit (.bool true)], args := [d1, d2] }
  | _ => none }
def pkceOneRow : OpenClaim := { program := "ytekpdkjkkglcjaa", sum := "5808fbe20c5770c60f117d842169ba2c027e1d2abe2a473a75b1b327ac4bf374", func := "countersign/countersignlaw18.PkceOne", spec := "pkceOne", inPlace := ["internal/bytealg.IndexByteString", "internal/abi.NoEscape"], unfollowed := true, recurses := true, apart := false }
def PkceOneSaid : Prop := pkceOneRow.holds Try.pinned (OpenSpec.ofChange pkceOneSpec)

/-- ITS FALSE NEIGHBOUR: 'it returns false'. Refute it at one input. -/
def pkceOneWrong : ChangeSpec := { name := "pkceOne", fn := fun _ => fun
  | [d1, d2] => { results := [.lit (.bool false)], args := [d1, d2] }
  | _ => none }
def PkceOneWrongFalsely : Prop := pkceOneRow.holds Try.pinned (OpenSpec.ofChange pkceOneWrong)

/- THE SECOND FORM. 'bulk': how many values and letters a reading holds, each counted each time it is reached (what is shared counts as often as it is met; a slice's spare places count too). A statement '..UptoSaid' is the law's where the arguments, and the package variables that the reading takes, are together of bulk at most 1048576: NARROWER than '..Said'. Prove '..Said' where nothing that the law and all that it calls make is longer than what came in: it says more and counts as full. Else prove '..UptoSaid'. A law counts once. -/
mutual
def uptoBulk {H : Type} : DataW H → Nat
  | .lit (.string bytes) => bytes.length + 1
  | .lit _ => 1
  | .nil => 1
  | .ptr d => uptoBulk d + 1
  | .slice elems spare => uptoBulkAll elems + uptoBulkAll spare + 1
  | .agg parts => uptoBulkAll parts + 1
  | .iface _ d => uptoBulk d + 1
  | .map entries => uptoBulkEntries entries + 1
  | .held _ => 1
def uptoBulkAll {H : Type} : List (DataW H) → Nat
  | [] => 0
  | d :: r => uptoBulk d + uptoBulkAll r
def uptoBulkEntries {H : Type} : List (Lit × DataW H) → Nat
  | [] => 0
  | x :: r => uptoBulkEntry x + uptoBulkEntries r
def uptoBulkEntry {H : Type} : Lit × DataW H → Nat
  | (.string bytes, d) => bytes.length + uptoBulk d + 1
  | (_, d) => uptoBulk d + 1
 end
def uptoSmall : (H : Type) → List (DataW H) → Bool := fun _ ds => decide (uptoBulkAll ds ≤ 1048576)
def OpenSpec.upto (s : _root_.Go.ChangeSpec) : _root_.Go.OpenSpec := { _root_.Go.OpenSpec.ofChange s with cond := some uptoSmall }

/-- 'countersignlaw18.PkceAll', WHERE WHAT IT READS IS OF BULK AT MOST 1048576: true; the input reads as it did. -/
def pkceAllUptoRow : OpenClaim := { program := "ytekpdkjkkglcjaa", sum := "5808fbe20c5770c60f117d842169ba2c027e1d2abe2a473a75b1b327ac4bf374", func := "countersign/countersignlaw18.PkceAll", spec := "pkceAll", inPlace := ["internal/bytealg.IndexByteString", "internal/abi.NoEscape"], unfollowed := true, recurses := true, apart := false, narrowed := true }
def PkceAllUptoSaid : Prop := pkceAllUptoRow.holds Try.pinned (OpenSpec.upto pkceAllSpec)

/-- 'countersignlaw18.PkceOne', WHERE WHAT IT READS IS OF BULK AT MOST 1048576: true; the input reads as it did. -/
def pkceOneUptoRow : OpenClaim := { program := "ytekpdkjkkglcjaa", sum := "5808fbe20c5770c60f117d842169ba2c027e1d2abe2a473a75b1b327ac4bf374", func := "countersign/countersignlaw18.PkceOne", spec := "pkceOne", inPlace := ["internal/bytealg.IndexByteString", "internal/abi.NoEscape"], unfollowed := true, recurses := true, apart := false, narrowed := true }
def PkceOneUptoSaid : Prop := pkceOneUptoRow.holds Try.pinned (OpenSpec.upto pkceOneSpec)

end Rows
end Go.Proofs.Ytekpdkjkkglcjaa
