import Derived.Test.YteoofilgkbinnaaDoorSo
set_option linter.unusedVariables false
namespace Go.Proofs.YteoofilgkbinnaaDoor
open Go.RowKit
theorem blk3 {w : World} {g : Nat} {t : TypeId} {a b c : ByteArray} {m : Nat} (h : Blk w g t #[.string a, .string b, .string c]) (ha : a.size ≤ m) (hb : b.size ≤ m) (hc : c.size ≤ m) {i : Nat} (hi : i < 3) : ∃ x : ByteArray, x.size ≤ m ∧ w.cell? ⟨g, i, none⟩ = some (.string x) := by
  rcases show i = 0 ∨ i = 1 ∨ i = 2 by omega with rfl | rfl | rfl
  · exact ⟨a, ha, h.cell 0⟩
  · exact ⟨b, hb, h.cell 1⟩
  · exact ⟨c, hc, h.cell 2⟩
theorem blk2 {w : World} {g : Nat} {t : TypeId} {a b : ByteArray} {m : Nat} (h : Blk w g t #[.string a, .string b]) (ha : a.size ≤ m) (hb : b.size ≤ m) {i : Nat} (hi : i < 2) : ∃ x : ByteArray, x.size ≤ m ∧ w.cell? ⟨g, i, none⟩ = some (.string x) := by
  rcases show i = 0 ∨ i = 1 by omega with rfl | rfl
  · exact ⟨a, ha, h.cell 0⟩
  · exact ⟨b, hb, h.cell 1⟩
/-- what a law is told of numbers that came in -/
def IntsIn (w : World) (A : Option Addr) (c : Nat) (zs : List Int) : Prop :=
  zs.length ≤ c ∧ zs.length ≤ 9223372036854775807 ∧ (∀ z ∈ zs, -9223372036854775808 ≤ z ∧ z ≤ 9223372036854775807) ∧ Reads w w.heap.size 1 A zs.length (zs.map (Value.int .i64))
theorem IntsIn.below {w w' : World} {A : Option Addr} {c : Nat} {zs : List Int} (h : IntsIn w A c zs) (hb : Below w.heap.size w w') : IntsIn w' A c zs :=
  ⟨h.1, h.2.1, h.2.2.1, (h.2.2.2.below hb).more hb.size⟩
theorem IsRow.intsIn {w : World} {a : Option Addr} {len cap : Nat} {zs : List Int} (h : IsRow .i64 w a len cap zs) : ∃ l : List Int, len = l.length ∧ IntsIn w a cap l := by
  obtain ⟨h1, h2, h3, h4⟩ := h.ints
  have hcap : cap ≤ 9223372036854775807 := by
    rcases h with ⟨_, _, rfl, _⟩ | ⟨x, _, _, hm, _⟩
    · omega
    · simpa [maxLen] using hm
  refine ⟨zs.take len, h3.symm, by omega, by omega, fun z hz => ?_, ?_⟩
  · have := h4 z hz
    simpa [Lit.wf, IntKind.min, IntKind.max, IntKind.signed, IntKind.bits] using this
  · rw [h3]; exact h1
theorem i64_wf {a : Int} (h : (Lit.int .i64 a).wf = true) : -9223372036854775808 ≤ a ∧ a ≤ 9223372036854775807 := by
  simpa [Lit.wf, IntKind.min, IntKind.max, IntKind.signed, IntKind.bits] using h
theorem u8_wf {a : Int} (h : (Lit.int .u8 a).wf = true) : 0 ≤ a ∧ a ≤ 255 := by
  simpa [Lit.wf, IntKind.min, IntKind.max, IntKind.signed, IntKind.bits] using h
theorem some_in {zs : List Int} {A : Option Addr} {c : Nat} (most : Nat) (hm : most ≤ 1000) {w : World} (h : IntsIn w A c zs) :
    Calls Tryd.prog 8 #[.slice A zs.length c, .int .i64 most] w (SomeStr (4 * most) w) :=
  some_walk zs A c most hm h.1 h.2.1 h.2.2.1 w h.2.2.2
theorem blk4 {w : World} {g : Nat} {t : TypeId} {a b c d : ByteArray} {m : Nat} (h : Blk w g t #[.string a, .string b, .string c, .string d]) (ha : a.size ≤ m) (hb : b.size ≤ m) (hc : c.size ≤ m) (hd : d.size ≤ m) {i : Nat} (hi : i < 4) : ∃ x : ByteArray, x.size ≤ m ∧ w.cell? ⟨g, i, none⟩ = some (.string x) := by
  rcases show i = 0 ∨ i = 1 ∨ i = 2 ∨ i = 3 by omega with rfl | rfl | rfl | rfl
  · exact ⟨a, ha, h.cell 0⟩
  · exact ⟨b, hb, h.cell 1⟩
  · exact ⟨c, hc, h.cell 2⟩
  · exact ⟨d, hd, h.cell 3⟩
end Go.Proofs.YteoofilgkbinnaaDoor
