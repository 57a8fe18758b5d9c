/-
  NARROWER THAN 'FOR EVERY INPUT', by the rows' own cells (each row's printed sentence says how): FormAll: laid · FormBack: laid · FormOnly: laid · FormMany: laid.
  DERIVED. THE GIVEN ROWS OF THIS SEAT. 4 by the template 'for every input the law returns true; each argument reads behind the call as it read before'; 0 by the template 'total and deterministic' (their statements: YtkdhnfifhaepaaaDoorTotals.lean).
  GIVEN WITH THE SEED: the statements are not yours to turn. If you find one false, say at which input.
  Laid BY PROGRAM, IN A SANDBOX (cutbox-rows.mjs): the forced cells as the released guide's own fill.sh prints them over the translation 1f3e11516dd20b4f… (all of the seat's roots in one cut). By AI agents, Wed Nov 11 2026. No macro, syntax, notation, axiom, sorry.
-/
import Derived.Test.YtkdhnfifhaepaaaDoorChecked
import GoSem.PinnedTables
import GoSem.Claim
import GoSem.ClaimJoined
import GoSem.ClaimMapViews
import Derived.JoinedTies
import Derived.KernelRfl
namespace Go.Proofs.YtkdhnfifhaepaaaDoor
/- THE CELL 'sum', in the pinned program and in every row, IS THE sha256 OF THE DUMP (.gsa) THAT YtkdhnfifhaepaaaDoorProg.lean LOADS. Nothing in Lean hashes anything: it is a label: what it is worth is what the hold of that sum in a sandbox is worth. -/
noncomputable def Tryd.pinned : Pinned := { name := "ytkdhnfifhaepaaadoor", sum := "1f3e11516dd20b4f3ba0f8ff87607d6a19635c00c42f7c1d97fe3ffe0f53d999", checked := Tryd.checked }
namespace Rows
def none {H : Type} : Left H := { results := [], args := [] }

/- WHAT THE LISTED PACKAGE-LEVEL VARIABLES READ AS WHEN THE CALL BEGINS. Each datum BY PROGRAM (the guide's laid-datum.mjs) off the statement by which the dump's own 'gosem.cut.vars' lays the variable. In a bare row this is a premise. The card (YtkdhnfifhaepaaaDoorCards.lean) ties it to the program's text. -/
def laid_unicode_utf8_acceptRanges {H : Type} : DataW H := .agg [.agg [.lit (.int .u8 128), .lit (.int .u8 191)], .agg [.lit (.int .u8 160), .lit (.int .u8 191)], .agg [.lit (.int .u8 128), .lit (.int .u8 159)], .agg [.lit (.int .u8 144), .lit (.int .u8 191)], .agg [.lit (.int .u8 128), .lit (.int .u8 143)], .agg [.lit (.int .u8 0), .lit (.int .u8 0)], .agg [.lit (.int .u8 0), .lit (.int .u8 0)], .agg [.lit (.int .u8 0), .lit (.int .u8 0)], .agg [.lit (.int .u8 0), .lit (.int .u8 0)], .agg [.lit (.int .u8 0), .lit (.int .u8 0)], .agg [.lit (.int .u8 0), .lit (.int .u8 0)], .agg [.lit (.int .u8 0), .lit (.int .u8 0)], .agg [.lit (.int .u8 0), .lit (.int .u8 0)], .agg [.lit (.int .u8 0), .lit (.int .u8 0)], .agg [.lit (.int .u8 0), .lit (.int .u8 0)], .agg [.lit (.int .u8 0), .lit (.int .u8 0)]]
def laid_countersign_pct_digits {H : Type} : DataW H := .agg [.lit (.int .i32 48), .lit (.int .i32 49), .lit (.int .i32 50), .lit (.int .i32 51), .lit (.int .i32 52), .lit (.int .i32 53), .lit (.int .i32 54), .lit (.int .i32 55), .lit (.int .i32 56), .lit (.int .i32 57), .lit (.int .i32 65), .lit (.int .i32 66), .lit (.int .i32 67), .lit (.int .i32 68), .lit (.int .i32 69), .lit (.int .i32 70)]
/-- One of Go's own tables, pinned by name: the form's constant. -/
def laid_unicode_utf8_first : DataW Unit := Go.Pinned.utf8First

/-- 'countersignlaw10.FormAll': WHATEVER THE INPUT: true; the input reads as it did. -/
def formAllSpec : ChangeSpec := { name := "formAll", fn := fun _ => fun
  | [d1, d2, d3, d4] => { results := [.lit (.bool true)], args := [d1, d2, d3, d4] }
  | _ => none }
def formAllRow : OpenClaim := { program := "ytkdhnfifhaepaaadoor", sum := "1f3e11516dd20b4f3ba0f8ff87607d6a19635c00c42f7c1d97fe3ffe0f53d999", func := "countersign/countersignlaw10.FormAll", spec := "formAll", inPlace := ["internal/bytealg.CountString", "internal/bytealg.IndexByteString", "internal/bytealg.IndexString", "internal/abi.NoEscape", "internal/bytealg.MakeNoZero"], unfollowed := true, recurses := true, named := ["unicode/utf8.first", "unicode/utf8.acceptRanges", "internal/bytealg.MaxLen", "countersign/pct.digits"], apart := false, laid := [("unicode/utf8.acceptRanges", laid_unicode_utf8_acceptRanges), ("countersign/pct.digits", laid_countersign_pct_digits), ("unicode/utf8.first", laid_unicode_utf8_first)] }
def FormAllSaid : Prop := formAllRow.holds Tryd.pinned (OpenSpec.ofChange formAllSpec)

/-- ITS FALSE NEIGHBOUR: 'it returns false'. Refute it at one input. -/
def formAllWrong : ChangeSpec := { name := "formAll", fn := fun _ => fun
  | [d1, d2, d3, d4] => { results := [.lit (.bool false)], args := [d1, d2, d3, d4] }
  | _ => none }
def FormAllWrongFalsely : Prop := formAllRow.holds Tryd.pinned (OpenSpec.ofChange formAllWrong)

/-- 'countersignlaw10.FormBack': WHATEVER THE INPUT: true; the input reads as it did. -/
def formBackSpec : ChangeSpec := { name := "formBack", fn := fun _ => fun
  | [d1, d2] => { results := [.lit (.bool true)], args := [d1, d2] }
  | _ => none }
def formBackRow : OpenClaim := { program := "ytkdhnfifhaepaaadoor", sum := "1f3e11516dd20b4f3ba0f8ff87607d6a19635c00c42f7c1d97fe3ffe0f53d999", func := "countersign/countersignlaw10.FormBack", spec := "formBack", inPlace := ["internal/bytealg.CountString", "internal/bytealg.IndexByteString", "internal/bytealg.IndexString", "internal/abi.NoEscape", "internal/bytealg.MakeNoZero"], unfollowed := true, recurses := true, named := ["unicode/utf8.first", "unicode/utf8.acceptRanges", "internal/bytealg.MaxLen", "countersign/pct.digits"], apart := false, laid := [("unicode/utf8.acceptRanges", laid_unicode_utf8_acceptRanges), ("countersign/pct.digits", laid_countersign_pct_digits), ("unicode/utf8.first", laid_unicode_utf8_first)] }
def FormBackSaid : Prop := formBackRow.holds Tryd.pinned (OpenSpec.ofChange formBackSpec)

/-- ITS FALSE NEIGHBOUR: 'it returns false'. Refute it at one input. -/
def formBackWrong : ChangeSpec := { name := "formBack", fn := fun _ => fun
  | [d1, d2] => { results := [.lit (.bool false)], args := [d1, d2] }
  | _ => none }
def FormBackWrongFalsely : Prop := formBackRow.holds Tryd.pinned (OpenSpec.ofChange formBackWrong)

/-- 'countersignlaw10.FormOnly': WHATEVER THE INPUT: true; the input reads as it did. -/
def formOnlySpec : ChangeSpec := { name := "formOnly", fn := fun _ => fun
  | [d1, d2] => { results := [.lit (.bool true)], args := [d1, d2] }
  | _ => none }
def formOnlyRow : OpenClaim := { program := "ytkdhnfifhaepaaadoor", sum := "1f3e11516dd20b4f3ba0f8ff87607d6a19635c00c42f7c1d97fe3ffe0f53d999", func := "countersign/countersignlaw10.FormOnly", spec := "formOnly", inPlace := ["internal/bytealg.CountString", "internal/bytealg.IndexByteString", "internal/bytealg.IndexString", "internal/abi.NoEscape", "internal/bytealg.MakeNoZero"], unfollowed := true, recurses := true, named := ["unicode/utf8.first", "unicode/utf8.acceptRanges", "internal/bytealg.MaxLen", "countersign/pct.digits"], apart := false, laid := [("unicode/utf8.acceptRanges", laid_unicode_utf8_acceptRanges), ("countersign/pct.digits", laid_countersign_pct_digits), ("unicode/utf8.first", laid_unicode_utf8_first)] }
def FormOnlySaid : Prop := formOnlyRow.holds Tryd.pinned (OpenSpec.ofChange formOnlySpec)

/-- ITS FALSE NEIGHBOUR: 'it returns false'. Refute it at one input. -/
def formOnlyWrong : ChangeSpec := { name := "formOnly", fn := fun _ => fun
  | [d1, d2] => { results := [.lit (.bool false)], args := [d1, d2] }
  | _ => none }
def FormOnlyWrongFalsely : Prop := formOnlyRow.holds Tryd.pinned (OpenSpec.ofChange formOnlyWrong)

/-- 'countersignlaw10.FormMany': WHATEVER THE INPUT: true; the input reads as it did. -/
def formManySpec : ChangeSpec := { name := "formMany", fn := fun _ => fun
  | [d1, d2] => { results := [.lit (.bool true)], args := [d1, d2] }
  | _ => none }
def formManyRow : OpenClaim := { program := "ytkdhnfifhaepaaadoor", sum := "1f3e11516dd20b4f3ba0f8ff87607d6a19635c00c42f7c1d97fe3ffe0f53d999", func := "countersign/countersignlaw10.FormMany", spec := "formMany", inPlace := ["internal/bytealg.CountString", "internal/bytealg.IndexByteString", "internal/bytealg.IndexString", "internal/abi.NoEscape", "internal/bytealg.MakeNoZero"], unfollowed := true, recurses := true, named := ["unicode/utf8.first", "unicode/utf8.acceptRanges", "internal/bytealg.MaxLen", "countersign/pct.digits"], apart := false, laid := [("unicode/utf8.acceptRanges", laid_unicode_utf8_acceptRanges), ("countersign/pct.digits", laid_countersign_pct_digits), ("unicode/utf8.first", laid_unicode_utf8_first)] }
def FormManySaid : Prop := formManyRow.holds Tryd.pinned (OpenSpec.ofChange formManySpec)

/-- ITS FALSE NEIGHBOUR: 'it returns false'. Refute it at one input. -/
def formManyWrong : ChangeSpec := { name := "formMany", fn := fun _ => fun
  | [d1, d2] => { results := [.lit (.bool false)], args := [d1, d2] }
  | _ => none }
def FormManyWrongFalsely : Prop := formManyRow.holds Tryd.pinned (OpenSpec.ofChange formManyWrong)

/- THE SECOND FORM. 'bulk': how many values and letters a reading holds, each counted each time it is reached (what is shared counts as often as it is met; a slice's spare places count too). A statement '..UptoSaid' is the law's where the arguments, and the package variables that the reading takes, are together of bulk at most 1048576: NARROWER than '..Said'. Prove '..Said' where nothing that the law and all that it calls make is longer than what came in: it says more and counts as full. Else prove '..UptoSaid'. A law counts once. -/
mutual
def uptoBulk {H : Type} : DataW H → Nat
  | .lit (.string bytes) => bytes.length + 1
  | .lit _ => 1
  | .nil => 1
  | .ptr d => uptoBulk d + 1
  | .slice elems spare => uptoBulkAll elems + uptoBulkAll spare + 1
  | .agg parts => uptoBulkAll parts + 1
  | .iface _ d => uptoBulk d + 1
  | .map entries => uptoBulkEntries entries + 1
  | .held _ => 1
def uptoBulkAll {H : Type} : List (DataW H) → Nat
  | [] => 0
  | d :: r => uptoBulk d + uptoBulkAll r
def uptoBulkEntries {H : Type} : List (Lit × DataW H) → Nat
  | [] => 0
  | x :: r => uptoBulkEntry x + uptoBulkEntries r
def uptoBulkEntry {H : Type} : Lit × DataW H → Nat
  | (.string bytes, d) => bytes.length + uptoBulk d + 1
  | (_, d) => uptoBulk d + 1
 end
def uptoSmall : (H : Type) → List (DataW H) → Bool := fun _ ds => decide (uptoBulkAll ds ≤ 1048576)
def OpenSpec.upto (s : _root_.Go.ChangeSpec) : _root_.Go.OpenSpec := { _root_.Go.OpenSpec.ofChange s with cond := some uptoSmall }

/-- 'countersignlaw10.FormAll', WHERE WHAT IT READS IS OF BULK AT MOST 1048576: true; the input reads as it did. -/
def formAllUptoRow : OpenClaim := { program := "ytkdhnfifhaepaaadoor", sum := "1f3e11516dd20b4f3ba0f8ff87607d6a19635c00c42f7c1d97fe3ffe0f53d999", func := "countersign/countersignlaw10.FormAll", spec := "formAll", inPlace := ["internal/bytealg.CountString", "internal/bytealg.IndexByteString", "internal/bytealg.IndexString", "internal/abi.NoEscape", "internal/bytealg.MakeNoZero"], unfollowed := true, recurses := true, named := ["unicode/utf8.first", "unicode/utf8.acceptRanges", "internal/bytealg.MaxLen", "countersign/pct.digits"], apart := false, laid := [("unicode/utf8.acceptRanges", laid_unicode_utf8_acceptRanges), ("countersign/pct.digits", laid_countersign_pct_digits), ("unicode/utf8.first", laid_unicode_utf8_first)], narrowed := true }
def FormAllUptoSaid : Prop := formAllUptoRow.holds Tryd.pinned (OpenSpec.upto formAllSpec)

/-- 'countersignlaw10.FormBack', WHERE WHAT IT READS IS OF BULK AT MOST 1048576: true; the input reads as it did. -/
def formBackUptoRow : OpenClaim := { program := "ytkdhnfifhaepaaadoor", sum := "1f3e11516dd20b4f3ba0f8ff87607d6a19635c00c42f7c1d97fe3ffe0f53d999", func := "countersign/countersignlaw10.FormBack", spec := "formBack", inPlace := ["internal/bytealg.CountString", "internal/bytealg.IndexByteString", "internal/bytealg.IndexString", "internal/abi.NoEscape", "internal/bytealg.MakeNoZero"], unfollowed := true, recurses := true, named := ["unicode/utf8.first", "unicode/utf8.acceptRanges", "internal/bytealg.MaxLen", "countersign/pct.digits"], apart := false, laid := [("unicode/utf8.acceptRanges", laid_unicode_utf8_acceptRanges), ("countersign/pct.digits", laid_countersign_pct_digits), ("unicode/utf8.first", laid_unicode_utf8_first)], narrowed := true }
def FormBackUptoSaid : Prop := formBackUptoRow.holds Tryd.pinned (OpenSpec.upto formBackSpec)

/-- 'countersignlaw10.FormOnly', WHERE WHAT IT READS IS OF BULK AT MOST 1048576: true; the input reads as it did. -/
def formOnlyUptoRow : OpenClaim := { program := "ytkdhnfifhaepaaadoor", sum := "1f3e11516dd20b4f3ba0f8ff87607d6a19635c00c42f7c1d97fe3ffe0f53d999", func := "countersign/countersignlaw10.FormOnly", spec := "formOnly", inPlace := ["internal/bytealg.CountString", "internal/bytealg.IndexByteString", "internal/bytealg.IndexString", "internal/abi.NoEscape", "internal/bytealg.MakeNoZero"], unfollowed := true, recurses := true, named := ["unicode/utf8.first", "unicode/utf8.acceptRanges", "internal/bytealg.MaxLen", "countersign/pct.digits"], apart := false, laid := [("unicode/utf8.acceptRanges", laid_unicode_utf8_acceptRanges), ("countersign/pct.digits", laid_countersign_pct_digits), ("unicode/utf8.first", laid_unicode_utf8_first)], narrowed := true }
def FormOnlyUptoSaid : Prop := formOnlyUptoRow.holds Tryd.pinned (OpenSpec.upto formOnlySpec)

/-- 'countersignlaw10.FormMany', WHERE WHAT IT READS IS OF BULK AT MOST 1048576: true; the input reads as it did. -/
def formManyUptoRow : OpenClaim := { program := "ytkdhnfifhaepaaadoor", sum := "1f3e11516dd20b4f3ba0f8ff87607d6a19635c00c42f7c1d97fe3ffe0f53d999", func := "countersign/countersignlaw10.FormMany", spec := "formMany", inPlace := ["internal/bytealg.CountString", "internal/bytealg.IndexByteString", "internal/bytealg.IndexString", "internal/abi.NoEscape", "internal/bytealg.MakeNoZero"], unfollowed := true, recurses := true, named := ["unicode/utf8.first", "unicode/utf8.acceptRanges", "internal/bytealg.MaxLen", "countersign/pct.digits"], apart := false, laid := [("unicode/utf8.acceptRanges", laid_unicode_utf8_acceptRanges), ("countersign/pct.digits", laid_countersign_pct_digits), ("unicode/utf8.first", laid_unicode_utf8_first)], narrowed := true }
def FormManyUptoSaid : Prop := formManyUptoRow.holds Tryd.pinned (OpenSpec.upto formManySpec)

end Rows
end Go.Proofs.YtkdhnfifhaepaaaDoor
