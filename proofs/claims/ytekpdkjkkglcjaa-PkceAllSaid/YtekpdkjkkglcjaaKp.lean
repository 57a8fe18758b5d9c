/- Facts that later worlds keep; a load of a struct under a guard. No condition of its own. -/
import Derived.Test.YtekpdkjkkglcjaaSb
import Derived.Test.YtekpdkjkkglcjaaIb
import Derived.BigGuard
set_option linter.unusedVariables false
set_option linter.unusedSimpArgs false
set_option maxRecDepth 20000
namespace Go.Proofs.Ytekpdkjkkglcjaa
open Go.RowKit
theorem below_then {w0 w1 w2 : World} (h : Below w0.heap.size w0 w1) (k : Below w1.heap.size w1 w2) : Below w0.heap.size w0 w2 := h.trans (k.mono h.size)
def Keeps (W : World) (P : World → Prop) : Prop := ∀ W', Below W.heap.size W W' → P W'
section
variable {W W1 w : World} {P Q : World → Prop}
theorem Keeps.next (h : Keeps W P) (hb : Below W.heap.size W W1) (hq : Keeps W1 Q) : Keeps W1 (fun X => P X ∧ Q X) := fun W' hb' => ⟨h W' (below_then hb hb'), hq W' hb'⟩
theorem Keeps.and (h : Keeps W P) (hq : Keeps W Q) : Keeps W (fun X => P X ∧ Q X) := fun W' hb' => ⟨h W' hb', hq W' hb'⟩
theorem Keeps.on (h : Keeps W P) (hb : Below W.heap.size W W1) : Keeps W1 P := fun W' hb' => h W' (below_then hb hb')
theorem Keeps.now (h : Keeps W P) : P W := h W (Below.refl _ _)
theorem Keeps.alloc (h : Keeps W P) (o : Obj) : Keeps (W.alloc o) P := h.on ((Below.refl _ _).alloc (Nat.le_refl _) o)
theorem Keeps.drewN (h : Keeps W P) (n : Nat) : Keeps (W.drewN n) P := h.on (below_drewN (Below.refl _ _) n)
theorem Keeps.drew (h : Keeps W P) : Keeps W.drew P := h.on (Below.refl _ _).drew
theorem Keeps.mono (h : Keeps W P) (hpq : ∀ X, P X → Q X) : Keeps W Q := fun W' hb' => hpq W' (h W' hb')
theorem Blk.keeps {g : Nat} {t : TypeId} {cs : Array Value} (h : Blk W g t cs) : Keeps W (fun X => Blk X g t cs) := fun W' hb => h.below hb h.lt
theorem below_keeps (h : Below w.heap.size w W) : Keeps W (fun X => Below w.heap.size w X) := fun W' hb => below_then h hb
theorem BytesIn.keeps {A : Option Addr} {c : Nat} {l : List UInt8} (h : BytesIn W A c l) : Keeps W (fun X => BytesIn X A c l) := fun W' hb => h.below hb
theorem own_keeps {base : Nat} {e : TypeId} {size n : Nat} {v : Value} {xs : List Value} (h : W.ownsRow base e size v n xs) : Keeps W (fun X => X.ownsRow base e size v n xs) := fun W' hb => ownsRow_below h hb
end
theorem BytesIn.of_own {w : World} {base n c : Nat} {e : TypeId} {A : Option Addr} {l : List UInt8} (h : w.ownsRow base e 1 (.slice A n c) n (Lib.byteCells l)) : n = l.length ∧ BytesIn w A c l := by
  obtain ⟨A', c', e', hc, hr⟩ := own_reads h (Nat.le_refl _)
  injection e' with e1 _ e3
  subst e1 e3
  have hl := hr.get
  subst hl
  exact ⟨rfl, hc, own_cap h, hr⟩
section
variable {P : Program}
theorem wpList_load_atG {ops : Array Oper} {rest : List Oper} {o : Oper} {a : Act} {w : World} {Q : Exit → Act → World → Prop} (hw : Region.wanted o (yielded ops a.tmps) = true) (ty : TypeId) (x : Operand) (ho : o.op = .load ty x)
    (ad : Addr) (hx : a.eval x = .pointer (some ad)) (cs : List Value) (d : TypeDesc) (hc : ∀ j u, cs[j]? = some u → w.cell? (ad.add j) = some u)
    (hu : P.underlying ty = some d) (hd : (match d with | .struct _ | .array _ _ => true | _ => false) = true) (hi : (P.info? ty).map (·.size) = some cs.length)
    (h : wpList P ops Q rest (a.put o.dst (.agg cs.toArray)) w) : wpList P ops Q (o :: rest) a w :=
  wpList_step fun _ hK => by
    rw [if_pos hw]
    exact wp_load_at ty x ho ad hx cs d hc hu hd hi (hK _ _ h)
end
end Go.Proofs.Ytekpdkjkkglcjaa
