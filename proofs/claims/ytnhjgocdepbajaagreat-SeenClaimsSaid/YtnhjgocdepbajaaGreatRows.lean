/-
  No cell of these rows narrows 'for every input' (looked for: loops, veiled, ifaces, maps, wideKeys, modest, calm, conditions, laid).
  DERIVED. THE GIVEN ROWS OF THIS SEAT. 3 by the template 'for every input the law returns true; each argument reads behind the call as it read before'; 0 by the template 'total and deterministic' (their statements: YtnhjgocdepbajaaGreatTotals.lean).
  GIVEN WITH THE SEED: the statements are not yours to turn. If you find one false, say at which input.
  Laid BY PROGRAM, IN A SANDBOX (cutbox-rows.mjs): the forced cells as the released guide's own fill.sh prints them over the translation 67f04f929f823c69… (all of the seat's roots in one cut). By AI agents, Wed Nov 11 2026. No macro, syntax, notation, axiom, sorry.
-/
import Derived.Test.YtnhjgocdepbajaaGreatChecked
import GoSem.Claim
import GoSem.ClaimJoined
import GoSem.ClaimMapViews
import Derived.JoinedTies
import Derived.KernelRfl
namespace Go.Proofs.YtnhjgocdepbajaaGreat
/- THE CELL 'sum', in the pinned program and in every row, IS THE sha256 OF THE DUMP (.gsa) THAT YtnhjgocdepbajaaGreatProg.lean LOADS. Nothing in Lean hashes anything: it is a label: what it is worth is what the hold of that sum in a sandbox is worth. -/
noncomputable def Tryz.pinned : Pinned := { name := "ytnhjgocdepbajaagreat", sum := "67f04f929f823c69bcb98630a7b5937c39806fe56ab32e49300326a845b1fa03", checked := Tryz.checked }
namespace Rows
def none {H : Type} : Left H := { results := [], args := [] }

/-- 'countersignlaw23.SeenPlays': WHATEVER THE INPUT: true; the input reads as it did. -/
def seenPlaysSpec : ChangeSpec := { name := "seenPlays", fn := fun _ => fun
  | [d1, d2, d3] => { results := [.lit (.bool true)], args := [d1, d2, d3] }
  | _ => none }
def seenPlaysRow : OpenClaim := { program := "ytnhjgocdepbajaagreat", sum := "67f04f929f823c69bcb98630a7b5937c39806fe56ab32e49300326a845b1fa03", func := "countersign/countersignlaw23.SeenPlays", spec := "seenPlays", unfollowed := true, recurses := true, apart := false }
def SeenPlaysSaid : Prop := seenPlaysRow.holds Tryz.pinned (OpenSpec.ofChange seenPlaysSpec)

/-- ITS FALSE NEIGHBOUR: 'it returns false'. Refute it at one input. -/
def seenPlaysWrong : ChangeSpec := { name := "seenPlays", fn := fun _ => fun
  | [d1, d2, d3] => { results := [.lit (.bool false)], args := [d1, d2, d3] }
  | _ => none }
def SeenPlaysWrongFalsely : Prop := seenPlaysRow.holds Tryz.pinned (OpenSpec.ofChange seenPlaysWrong)

/-- 'countersignlaw23.SeenDrops': WHATEVER THE INPUT: true; the input reads as it did. -/
def seenDropsSpec : ChangeSpec := { name := "seenDrops", fn := fun _ => fun
  | [d1, d2, d3, d4] => { results := [.lit (.bool true)], args := [d1, d2, d3, d4] }
  | _ => none }
def seenDropsRow : OpenClaim := { program := "ytnhjgocdepbajaagreat", sum := "67f04f929f823c69bcb98630a7b5937c39806fe56ab32e49300326a845b1fa03", func := "countersign/countersignlaw23.SeenDrops", spec := "seenDrops", unfollowed := true, recurses := true, apart := false }
def SeenDropsSaid : Prop := seenDropsRow.holds Tryz.pinned (OpenSpec.ofChange seenDropsSpec)

/-- ITS FALSE NEIGHBOUR: 'it returns false'. Refute it at one input. -/
def seenDropsWrong : ChangeSpec := { name := "seenDrops", fn := fun _ => fun
  | [d1, d2, d3, d4] => { results := [.lit (.bool false)], args := [d1, d2, d3, d4] }
  | _ => none }
def SeenDropsWrongFalsely : Prop := seenDropsRow.holds Tryz.pinned (OpenSpec.ofChange seenDropsWrong)

/-- 'countersignlaw23.SeenClaims': WHATEVER THE INPUT: true; the input reads as it did. -/
def seenClaimsSpec : ChangeSpec := { name := "seenClaims", fn := fun _ => fun
  | [d1, d2, d3] => { results := [.lit (.bool true)], args := [d1, d2, d3] }
  | _ => none }
def seenClaimsRow : OpenClaim := { program := "ytnhjgocdepbajaagreat", sum := "67f04f929f823c69bcb98630a7b5937c39806fe56ab32e49300326a845b1fa03", func := "countersign/countersignlaw23.SeenClaims", spec := "seenClaims", unfollowed := true, recurses := true, apart := false }
def SeenClaimsSaid : Prop := seenClaimsRow.holds Tryz.pinned (OpenSpec.ofChange seenClaimsSpec)

/-- ITS FALSE NEIGHBOUR: 'it returns false'. Refute it at one input. -/
def seenClaimsWrong : ChangeSpec := { name := "seenClaims", fn := fun _ => fun
  | [d1, d2, d3] => { results := [.lit (.bool false)], args := [d1, d2, d3] }
  | _ => none }
def SeenClaimsWrongFalsely : Prop := seenClaimsRow.holds Tryz.pinned (OpenSpec.ofChange seenClaimsWrong)

/- THE SECOND FORM. 'bulk': how many values and letters a reading holds, each counted each time it is reached (what is shared counts as often as it is met; a slice's spare places count too). A statement '..UptoSaid' is the law's where the arguments, and the package variables that the reading takes, are together of bulk at most 1048576: NARROWER than '..Said'. Prove '..Said' where nothing that the law and all that it calls make is longer than what came in: it says more and counts as full. Else prove '..UptoSaid'. A law counts once. -/
mutual
def uptoBulk {H : Type} : DataW H → Nat
  | .lit (.string bytes) => bytes.length + 1
  | .lit _ => 1
  | .nil => 1
  | .ptr d => uptoBulk d + 1
  | .slice elems spare => uptoBulkAll elems + uptoBulkAll spare + 1
  | .agg parts => uptoBulkAll parts + 1
  | .iface _ d => uptoBulk d + 1
  | .map entries => uptoBulkEntries entries + 1
  | .held _ => 1
def uptoBulkAll {H : Type} : List (DataW H) → Nat
  | [] => 0
  | d :: r => uptoBulk d + uptoBulkAll r
def uptoBulkEntries {H : Type} : List (Lit × DataW H) → Nat
  | [] => 0
  | x :: r => uptoBulkEntry x + uptoBulkEntries r
def uptoBulkEntry {H : Type} : Lit × DataW H → Nat
  | (.string bytes, d) => bytes.length + uptoBulk d + 1
  | (_, d) => uptoBulk d + 1
 end
def uptoSmall : (H : Type) → List (DataW H) → Bool := fun _ ds => decide (uptoBulkAll ds ≤ 1048576)
def OpenSpec.upto (s : _root_.Go.ChangeSpec) : _root_.Go.OpenSpec := { _root_.Go.OpenSpec.ofChange s with cond := some uptoSmall }

/-- 'countersignlaw23.SeenPlays', WHERE WHAT IT READS IS OF BULK AT MOST 1048576: true; the input reads as it did. -/
def seenPlaysUptoRow : OpenClaim := { program := "ytnhjgocdepbajaagreat", sum := "67f04f929f823c69bcb98630a7b5937c39806fe56ab32e49300326a845b1fa03", func := "countersign/countersignlaw23.SeenPlays", spec := "seenPlays", unfollowed := true, recurses := true, apart := false, narrowed := true }
def SeenPlaysUptoSaid : Prop := seenPlaysUptoRow.holds Tryz.pinned (OpenSpec.upto seenPlaysSpec)

/-- 'countersignlaw23.SeenDrops', WHERE WHAT IT READS IS OF BULK AT MOST 1048576: true; the input reads as it did. -/
def seenDropsUptoRow : OpenClaim := { program := "ytnhjgocdepbajaagreat", sum := "67f04f929f823c69bcb98630a7b5937c39806fe56ab32e49300326a845b1fa03", func := "countersign/countersignlaw23.SeenDrops", spec := "seenDrops", unfollowed := true, recurses := true, apart := false, narrowed := true }
def SeenDropsUptoSaid : Prop := seenDropsUptoRow.holds Tryz.pinned (OpenSpec.upto seenDropsSpec)

/-- 'countersignlaw23.SeenClaims', WHERE WHAT IT READS IS OF BULK AT MOST 1048576: true; the input reads as it did. -/
def seenClaimsUptoRow : OpenClaim := { program := "ytnhjgocdepbajaagreat", sum := "67f04f929f823c69bcb98630a7b5937c39806fe56ab32e49300326a845b1fa03", func := "countersign/countersignlaw23.SeenClaims", spec := "seenClaims", unfollowed := true, recurses := true, apart := false, narrowed := true }
def SeenClaimsUptoSaid : Prop := seenClaimsUptoRow.holds Tryz.pinned (OpenSpec.upto seenClaimsSpec)

end Rows
end Go.Proofs.YtnhjgocdepbajaaGreat
