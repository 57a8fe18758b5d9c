/- JSON, plain: which values may be, how they are written. No condition of its own. -/
import Derived.Test.YtokgkifckgnabaaGreatDoorJa
import Derived.Lib.Join
import Derived.Lib.ItoaNum
set_option linter.unusedVariables false
set_option linter.unusedSimpArgs false
set_option maxRecDepth 20000
namespace Go.Proofs.YtokgkifckgnabaaGreatDoor
open Go.RowKit
def hexD (n : Nat) : UInt8 := if n < 10 then UInt8.ofNat (48 + n) else UInt8.ofNat (87 + n)
def escB (b : UInt8) : List UInt8 := if b = 34 ∨ b = 92 then [92, b] else if b < 32 then [92, 117, 48, 48, hexD (b.toNat / 16), hexD (b.toNat % 16)] else [b]
def quotedL (s : List UInt8) : List UInt8 := 34 :: (s.flatMap escB ++ [34])
mutual
/-- a value as a text -/
def jprint : Jv → List UInt8
  | .mk k b n s names kids =>
    if k = 1 then [110, 117, 108, 108] else
    if k = 2 then (if b then [116, 114, 117, 101] else [102, 97, 108, 115, 101]) else
    if k = 3 then Lib.itoa n else
    if k = 4 then quotedL s else
    if k = 6 then 123 :: (Lib.join (jprintO names kids) [44] ++ [125]) else 91 :: (Lib.join (jprintL kids) [44] ++ [93])
def jprintL : List Jv → List (List UInt8)
  | [] => []
  | v :: vs => jprint v :: jprintL vs
def jprintO : List (List UInt8) → List Jv → List (List UInt8)
  | _, [] => []
  | names, v :: vs => (quotedL (names.headD []) ++ 58 :: jprint v) :: jprintO names.tail vs
end
/-- may a value be, but for its kids? ok: is a text valid? -/
def aloneB (ok : List UInt8 → Bool) : Jv → Bool
  | .mk k b n s names kids =>
    decide (1 ≤ k ∧ k ≤ 6) && (!b || decide (k = 2)) && (decide (n = 0) || decide (k = 3)) && decide (-9007199254740992 ≤ n ∧ n ≤ 9007199254740992) && (s.isEmpty || decide (k = 4)) && ok s &&
    (kids.isEmpty || decide (k = 5 ∨ k = 6)) && (names.isEmpty || decide (k = 6)) && (!decide (k = 6) || (names.all ok && decide names.Nodup && decide (names.length = kids.length)))
mutual
/-- may a value be that stands in so many lists and objects? -/
def mayJ (ok : List UInt8 → Bool) : Jv → Nat → Bool
  | .mk k b n s names kids, deep => aloneB ok (.mk k b n s names kids) && (!decide (k = 5 ∨ k = 6) || (decide (deep < 8) && mayJs ok kids (deep + 1)))
def mayJs (ok : List UInt8 → Bool) : List Jv → Nat → Bool
  | [], _ => true
  | v :: vs, deep => mayJ ok v deep && mayJs ok vs deep
end
end Go.Proofs.YtokgkifckgnabaaGreatDoor
