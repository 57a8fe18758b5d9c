/- A set of texts in memory, as a map of bools. No condition of its own. -/
import Derived.Test.YtokgkifckgnabaaGreatDoorKit
import Derived.Maps.RangeWalk
set_option linter.unusedVariables false
set_option linter.unusedSimpArgs false
set_option maxRecDepth 20000
namespace Go.Proofs.YtokgkifckgnabaaGreatDoor
open Go.RowKit Go.Maps
def boolElem : Value → Option (DataW Unit × List MemPlace)
  | .bool b => some (.lit (.bool b), [])
  | _ => none
theorem boolElem_inv {v : Value} {z : DataW Unit × List MemPlace} (h : boolElem v = some z) : ∃ b, v = .bool b ∧ z = (.lit (.bool b), []) := by
  cases v <;> simp [boolElem] at h
  exact ⟨_, rfl, h.symm⟩
def keysS (ps : List (List UInt8)) : List Lit := ps.map Lit.string
def mapS (ps : List (List UInt8)) : DataW Unit := setOf (.lit (.bool true)) (keysS ps)
theorem keysS_lit (ps : List (List UInt8)) : ∀ x ∈ keysS ps, WideAt.IsKeyLit x := by
  intro x hx
  obtain ⟨p, _, rfl⟩ := List.mem_map.1 hx
  trivial
theorem mapS_has (ps : List (List UInt8)) (q : List UInt8) : has (mapS ps) (.string q) = ps.contains q := by
  rw [mapS, has_setOf _ _ _ (keysS_lit ps), Bool.eq_iff_iff, List.contains_iff_mem, keysS, List.any_map, List.any_eq_true]
  constructor
  · rintro ⟨p, hp, h⟩
    have : p = q := by simpa [Lit.sameKey] using h
    subst this; exact hp
  · intro h
    exact ⟨q, h, by simp [Lit.sameKey]⟩
theorem mapS_put (ps : List (List UInt8)) (p : List UInt8) : (mapS ps).put (.string p) (.lit (.bool true)) = mapS (ps ++ [p]) := by
  rw [mapS, mapS, keysS, keysS, List.map_append, List.map_cons, List.map_nil, setOf_snoc]
theorem fold_at (k : Lit) : ∀ (acc : List Lit) (m : DataW Unit), IsMap m → (∀ x ∈ acc, WideAt.IsKeyLit x) → m.atKey k (.lit (.bool false)) = .lit (.bool (has m k)) →
    (acc.foldl (fun m x => m.put x (.lit (.bool true))) m).atKey k (.lit (.bool false)) = .lit (.bool (has (acc.foldl (fun m x => m.put x (.lit (.bool true))) m) k))
  | [], m, _, _, h => h
  | x :: acc, m, hm, hl, h => by
    rw [List.foldl_cons]
    refine fold_at k acc _ (hm.put _ _) (fun y hy => hl y (by simp [hy])) ?_
    by_cases hx : k = x
    · subst hx
      rw [atKey_put_same hm (hl k (by simp)), has_put_same hm (hl k (by simp))]
    · rw [atKey_put_other hx, has_put_other hx]
      exact h
theorem mapS_at (ps : List (List UInt8)) (q : List UInt8) : (mapS ps).atKey (.string q) (.lit (.bool false)) = .lit (.bool (ps.contains q)) := by
  rw [← mapS_has]
  exact fold_at _ _ _ isMap_empty (keysS_lit ps) rfl
theorem lawS : Keyed Tryz.prog 9 := string_keyed Tryz.underlying9
theorem zeroB (w : World) : (zeroValue 4).run Tryz.prog w = .ok (.bool false) w := by kernel_rfl
theorem keyS (x : ByteArray) (q : List UInt8) (hx : x.data.toList = q) (h : x.size ≤ 9223372036854775807) : keyOf Tryz.prog 9 (.string x) = some (.string q) := by
  rw [← hx]
  exact Go.WideMaps.keyOf_string_mk Tryz.underlying9 (by unfold maxLen; omega)
/-- block b is the set of the words ps -/
def MapS (w : World) (b : Nat) (ps : List (List UInt8)) : Prop := ∃ n, w.ownsMap Tryz.prog 9 boolElem b n (mapS ps)
theorem MapS.look {w : World} {b : Nat} {ps : List (List UInt8)} (h : MapS w b ps) (x : ByteArray) (q : List UInt8) (hx : x.data.toList = q) (hs : x.size ≤ 9223372036854775807) :
    (Instr.lookup 117 (.map (some b)) (.string x) false).run Tryz.prog w = .ok (.bool (ps.contains q)) w := by
  obtain ⟨n, h⟩ := h
  obtain ⟨v, z, hrun, hv⟩ := h.lookup lawS Tryz.underlying117 (zeroB w) (zd := .lit (.bool false)) (zp := []) rfl (keyS x q hx hs)
  obtain ⟨c, rfl, hc⟩ := boolElem_inv hv
  rw [mapS_at] at hc
  simp only [Prod.mk.injEq, DataW.lit.injEq, Lit.bool.injEq] at hc
  rw [hrun, ← hc.1]
theorem MapS.below {w w' : World} {b B : Nat} {ps : List (List UInt8)} (h : MapS w b ps) (hb : Below B w w') (hB : b < B) : MapS w' b ps := by
  obtain ⟨n, es, clock, h1, h2⟩ := h
  exact ⟨n, es, clock, (hb.block b hB).trans h1, h2⟩
theorem MapS.lt {w : World} {b : Nat} {ps : List (List UInt8)} (h : MapS w b ps) : b < w.heap.size := by
  obtain ⟨n, h⟩ := h
  exact h.lt
theorem MapS.kept {w w' : World} {b : Nat} {ps : List (List UInt8)} {row : Option Nat} (h : MapS w b ps) (hg : w.grownBy w' row) (hne : some b ≠ row) : MapS w' b ps := by
  obtain ⟨n, h⟩ := h
  exact ⟨n, h.kept hg hne⟩
theorem MapS.made (w : World) : (w.alloc (.map #[] 0)).ownsMap Tryz.prog 9 boolElem w.heap.size 0 (mapS []) := World.ownsMap_made w Tryz.prog 9 boolElem
end Go.Proofs.YtokgkifckgnabaaGreatDoor
