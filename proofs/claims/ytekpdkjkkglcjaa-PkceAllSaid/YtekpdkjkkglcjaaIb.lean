import Derived.Test.YtekpdkjkkglcjaaKit
set_option linter.unusedVariables false
set_option linter.unusedSimpArgs false
set_option maxRecDepth 20000
namespace Go.Proofs.Ytekpdkjkkglcjaa
open Go.RowKit
/-- what a law is told of bytes that came in -/
def BytesIn (w : World) (A : Option Addr) (c : Nat) (l : List UInt8) : Prop :=
  l.length ≤ c ∧ c ≤ 9223372036854775807 ∧ Reads w w.heap.size 1 A l.length (Lib.byteCells l)
theorem BytesIn.below {w w' : World} {A : Option Addr} {c : Nat} {l : List UInt8} (h : BytesIn w A c l) (hb : Below w.heap.size w w') : BytesIn w' A c l :=
  ⟨h.1, h.2.1, (h.2.2.below hb).more hb.size⟩
theorem IsRow.bytesIn {w : World} {a : Option Addr} {len cap : Nat} {zs : List Int} (h : IsRow .u8 w a len cap zs) : ∃ l : List UInt8, len = l.length ∧ BytesIn w a cap l := by
  obtain ⟨l, hr, hc⟩ := h.bytes
  have hl := hr.get
  have hcap : cap ≤ 9223372036854775807 := by
    rcases h with ⟨_, _, rfl, _⟩ | ⟨x, _, _, hm, _⟩
    · omega
    · simpa [maxLen] using hm
  subst hl
  exact ⟨l, rfl, hc, hcap, hr⟩
theorem own_cap {w : World} {base : Nat} {e : TypeId} {size n c : Nat} {A : Option Addr} {xs : List Value} (h : w.ownsRow base e size (.slice A n c) n xs) : c ≤ 9223372036854775807 := by
  rcases h.2 with ⟨h, _⟩ | ⟨_, _, _, h, _, _, _, h2, _⟩
  · injection h with _ _ h; omega
  · injection h with _ _ h; subst h; simpa [maxLen] using h2
section
variable {P : Program} (w : World)
/-- append of whatever slice onto a row of the call's own, the value a slice written out, in a list of operations -/
theorem wpList_append_sl {ops : Array Oper} {rest : List Oper} {o : Oper} {a : Act} {Q : Exit → Act → World → Prop} (hgd : o.guard = none) (s x : Operand) (t : TypeId)
    (ho : o.op = .call { callee := .builtin .append, args := #[s, x], argTypes := #[t, t] })
    (base : Nat) (e : TypeId) (i : TypeInfo) (z : Value) (size bytes : Nat) (ht : P.underlying t = some (.slice e)) (hi : P.info? e = some i) (hz : i.zero = some z)
    (hsize : i.size = size) (hby : i.bytes = bytes) (hzs : z.cells.size = size) (hsz : 0 < size)
    (v : Value) (n : Nat) (xs : List Value) (hs : a.eval s = v) (hown : w.ownsRow base e size v n xs)
    (B : Nat) (A : Option Addr) (m c : Nat) (news : List Value) (hx : a.eval x = .slice A m c) (hr : Reads w B size A m news) (h1 : ∀ u ∈ news, u.oneCell' = true)
    (h63 : n + m ≤ maxLen) (hbytes : (n + m) * bytes ≤ 140737488355328) (hbase : base ≤ w.heap.size)
    (N : Nat) (hN : n + m = N) (ys : List Value) (hys : xs ++ news = ys)
    (h : ∀ A' c' w', N ≤ c' → w'.ownsRow base e size (.slice A' N c') N ys → w.grownBy w' v.ownBlock → wpList P ops Q rest (a.put o.dst (.slice A' N c')) w') : wpList P ops Q (o :: rest) a w := by
  subst hN hys
  refine wpList_append_any w hgd s x t ho base e i z size bytes ht hi hz hsize hby hzs hsz v n xs hs hown B A m c news hx hr h1 h63 hbytes hbase fun v' w' h2 h3 _ => ?_
  obtain ⟨A', c', rfl, hc, _⟩ := own_reads h2 (Nat.le_refl _)
  exact h A' c' w' hc h2 h3
end
theorem byteCells_ones (l : List UInt8) : ∀ u ∈ Lib.byteCells l, u.oneCell' = true := by
  intro u hu
  simp [Lib.byteCells] at hu
  obtain ⟨b, _, rfl⟩ := hu
  rfl
end Go.Proofs.Ytekpdkjkkglcjaa
