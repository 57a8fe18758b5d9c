/- Marks: base64, Text, inner, Read. No condition of its own. -/
import Derived.Test.YtnhjgocdepbajaaGreatWk
import Derived.Deep.DeepCutAuto
import Derived.Deep.CutBlock
set_option linter.unusedVariables false
set_option linter.unusedSimpArgs false
set_option maxRecDepth 20000
set_option maxHeartbeats 8000000
namespace Go.Proofs.YtnhjgocdepbajaaGreat
namespace K9
section
open Go.RowKit
def BytesIn (w : World) (A : Option Addr) (c : Nat) (l : List UInt8) : Prop :=
 l.length ≤ c ∧ c ≤ 9223372036854775807 ∧ Reads w w.heap.size 1 A l.length (Lib.byteCells l)
theorem BytesIn.below {w w' : World} {A : Option Addr} {c : Nat} {l : List UInt8} (h : BytesIn w A c l) (hb : Below w.heap.size w w') : BytesIn w' A c l :=
 ⟨h.1, h.2.1, (h.2.2.below hb).more hb.size⟩
theorem own_cap {w : World} {base : Nat} {e : TypeId} {size n c : Nat} {A : Option Addr} {xs : List Value} (h : w.ownsRow base e size (.slice A n c) n xs) : c ≤ 9223372036854775807 := by
 rcases h.2 with ⟨h, _⟩ | ⟨_, _, _, h, _, _, _, h2, _⟩
 ·
  injection h with _ _ h; omega
 ·
  injection h with _ _ h; subst h; simpa [maxLen] using h2
section
variable {P : Program} (w : World)
end
end
section
open Go.RowKit
theorem below_then {w0 w1 w2 : World} (h : Below w0.heap.size w0 w1) (k : Below w1.heap.size w1 w2) : Below w0.heap.size w0 w2 := h.trans (k.mono h.size)
def Keeps (W : World) (P : World → Prop) : Prop := ∀ W', Below W.heap.size W W' → P W'
section
variable {W W1 w : World} {P Q : World → Prop}
theorem Keeps.next (h : Keeps W P) (hb : Below W.heap.size W W1) (hq : Keeps W1 Q) : Keeps W1 (fun X => P X ∧ Q X) := fun W' hb' => ⟨h W' (below_then hb hb'), hq W' hb'⟩
theorem Keeps.and (h : Keeps W P) (hq : Keeps W Q) : Keeps W (fun X => P X ∧ Q X) := fun W' hb' => ⟨h W' hb', hq W' hb'⟩
theorem Keeps.on (h : Keeps W P) (hb : Below W.heap.size W W1) : Keeps W1 P := fun W' hb' => h W' (below_then hb hb')
theorem Keeps.now (h : Keeps W P) : P W := h W (Below.refl _ _)
theorem Keeps.alloc (h : Keeps W P) (o : Obj) : Keeps (W.alloc o) P := h.on ((Below.refl _ _).alloc (Nat.le_refl _) o)
theorem Keeps.drewN (h : Keeps W P) (n : Nat) : Keeps (W.drewN n) P := h.on (below_drewN (Below.refl _ _) n)
theorem Keeps.drew (h : Keeps W P) : Keeps W.drew P := h.on (Below.refl _ _).drew
theorem Keeps.mono (h : Keeps W P) (hpq : ∀ X, P X → Q X) : Keeps W Q := fun W' hb' => hpq W' (h W' hb')
end
theorem BytesIn.of_own {w : World} {base n c : Nat} {e : TypeId} {A : Option Addr} {l : List UInt8} (h : w.ownsRow base e 1 (.slice A n c) n (Lib.byteCells l)) : n = l.length ∧ BytesIn w A c l := by
 obtain ⟨A', c', e', hc, hr⟩ := own_reads h (Nat.le_refl _)
 injection e' with e1 _ e3
 subst e1 e3
 have hl := hr.get
 subst hl
 exact ⟨rfl, hc, own_cap h, hr⟩
section
variable {P : Program}
end
end
section
open Go.RowKit
section
variable {P : Program} {ops : Array Oper} {Q : Exit → Act → World → Prop} {md : Region.Mode} {S S' : World → Prop}
end
end
section
open Go.RowKit
def RRd (w : World) (g : Nat) (l : List UInt8) (p n : Nat) : Prop :=
 l.length ≤ 1000000 ∧ p ≤ l.length ∧ n ≤ 64 ∧ ∃ A c, l.length ≤ c ∧ c ≤ 9223372036854775807 ∧ Blk w g 180 #[.slice A l.length c, .int .i64 (p : Int), .int .i64 (64 - (n : Int)), .int .i64 0] ∧ Reads w g 1 A l.length (Lib.byteCells l)
def RErr (w : World) (g : Nat) (e : Int) : Prop := ∃ (v : Value) (a b : Int), Blk w g 180 #[v, .int .i64 a, .int .i64 b, .int .i64 e]
theorem RRd.lt {w : World} {g : Nat} {l : List UInt8} {p n : Nat} (h : RRd w g l p n) : g < w.heap.size := by
 obtain ⟨_, _, _, A, c, _, _, hb, _⟩ := h
 exact hb.lt
theorem RRd.grown {w w' : World} {g : Nat} {row : Option Nat} {l : List UInt8} {p n : Nat} (h : RRd w g l p n) (hb : w.grownBy w' row) (hr : ∀ q, row = some q → g < q) : RRd w' g l p n := by
 have hl := h.lt
 obtain ⟨h1, h2, h3, A, c, hc, hc2, hk, hd⟩ := h
 exact ⟨h1, h2, h3, A, c, hc, hc2, hk.grown hb (fun e => by have := hr g e.symm; omega), hd.grown hb (by omega) (fun q e => by have := hr q e; omega)⟩
theorem RErr.grown {w w' : World} {g : Nat} {row : Option Nat} {e : Int} (h : RErr w g e) (hb : w.grownBy w' row) (hr : ∀ q, row = some q → g < q) : RErr w' g e := by
 obtain ⟨v, a, b, hk⟩ := h
 exact ⟨v, a, b, hk.grown hb (fun e => by have := hr g e.symm; omega)⟩
def RNumR (g : Nat) (l : List UInt8) (p n m : Nat) (w : World) (e : Ending) (w' : World) : Prop :=
 w.grownBy w' (some g) ∧ ((l.length < p + m ∧ e = .returned (.int .i64 0) ∧ RErr w' g 1) ∨ (p + m ≤ l.length ∧ e = .returned (.int .i64 (beN ((l.drop p).take m) : Nat)) ∧ RRd w' g l (p + m) n))
theorem rnum_walk (l : List UInt8) (g p n m : Nat) (w : World) (h : RRd w g l p n) (hm : m ≤ 4) :
  Calls Tryz.prog 138 #[.pointer (some ⟨g, 0, none⟩), .int .i64 m] w (RNumR g l p n m w) := by
 obtain ⟨h1, h2, h3, A, c, hc, hc2, hk, hr⟩ := h
 have HC0 : Hid (∀ q, (w.drewN q).cell? ⟨g, 0, none⟩ = some (.slice A l.length c)) := fun q => hk.cell 0
 have HC1 : Hid (∀ q, (w.drewN q).cell? ⟨g, 1, none⟩ = some (.int .i64 p)) := fun q => hk.cell 1
 have HC3 : Hid (∀ q, (w.drewN q).cell? ⟨g, 3, none⟩ = some (.int .i64 0)) := fun q => hk.cell 3
 have hc0 := HC0.out 0
 have hc1 := HC1.out 0
 have hc3 := HC3.out 0
 have hwr : True → IntKind.i64.wrap ((l.length : Int) - (p : Int)) = (l.length : Int) - (p : Int) := fun _ => by rw [IntKind.wrap_i64]; omega
 have hwp : True → wrap64 ((p : Int) + (m : Int)) = (p : Int) + (m : Int) := fun _ => by unfold wrap64; omega
 rw [World.drewN_zero] at hc0 hc1 hc3
 by_cases hs : l.length < p + m
 ·
  have hd : decide ((l.length : Int) - (p : Int) < (m : Int)) = true := by simp; omega
  have hf := fun q => (hk.drewN q).frozen 3
  have HE : Hid (∀ q, Blk ((w.drewN q).setCell ⟨g, 3, none⟩ (.int .i64 1)) g 180 #[.slice A l.length c, .int .i64 (p : Int), .int .i64 (64 - (n : Int)), .int .i64 1]) := fun q => (hk.drewN q).set_ 3 (.int .i64 1)
  clear hk hr
  go_enter Tryz.func138, Tryz.ntmps138
  go_wp2_with fail
  go_quiet (fail)
  go_wp2_with fail
  have HE1 := HE.out nq
  have HG1 : Hid (w.grownBy ((w.drewN nq).setCell ⟨g, 3, none⟩ (.int .i64 1)) (some g)) := only_setCell (only_drewN (only_refl w _) nq) (.inl rfl) _
  generalize (w.drewN nq).setCell ⟨g, 3, none⟩ (.int .i64 1) = W at HE1 HG1 ⊢
  have e0 : W.cell? ⟨g, 0, none⟩ = some (.slice A l.length c) := HE1.cell 0
  have e1 : W.cell? ⟨g, 1, none⟩ = some (.int .i64 (p : Int)) := HE1.cell 1
  have e3 : W.cell? ⟨g, 3, none⟩ = some (.int .i64 1) := HE1.cell 3
  have ef := HE1.frozen 1
  have HF : Hid (Blk (W.setCell ⟨g, 1, none⟩ (.int .i64 ((p : Int) + (m : Int)))) g 180 #[.slice A l.length c, .int .i64 ((p : Int) + (m : Int)), .int .i64 (64 - (n : Int)), .int .i64 1]) := HE1.set_ 1 (.int .i64 ((p : Int) + (m : Int)))
  have HG2 : Hid (w.grownBy (W.setCell ⟨g, 1, none⟩ (.int .i64 ((p : Int) + (m : Int)))) (some g)) := only_setCell HG1.out (.inl rfl) _
  clear HE HE1 HG1
  go_loopw [5, 6] (fun vv iv wr => vv = .int .i64 0 ∧ iv = .int .i64 0 ∧ W = wr) (fun _ _ _ => 0)
  case atStart => exact ⟨rfl, rfl, rfl⟩
  case round =>
   obtain ⟨rfl, rfl, rfl⟩ := hrel
   go_wp2_with fail
   go_ret
   exact ⟨HG2.out, .inl ⟨hs, rfl, _, _, _, HF.out⟩⟩
 ·
  have hd : decide ((l.length : Int) - (p : Int) < (m : Int)) = false := by simp; omega
  have HR : Hid (∀ q, Reads (w.drewN q) g 1 A l.length (Lib.byteCells l)) := fun q => hr
  have HK : Hid (∀ q, Blk (w.drewN q) g 180 #[.slice A l.length c, .int .i64 (p : Int), .int .i64 (64 - (n : Int)), .int .i64 0]) := fun q => hk
  have HS : Hid (∀ q, RRd ((w.drewN q).setCell ⟨g, 1, none⟩ (.int .i64 ((p : Int) + (m : Int)))) g l (p + m) n) := fun q => by
   refine ⟨h1, by omega, h3, A, c, hc, hc2, ?_, hr.setCell (Nat.le_refl _) _⟩
   have := (hk.drewN q).set_ 1 (.int .i64 ((p : Int) + (m : Int)))
   simpa using this
  clear hk hr
  obtain ⟨bl, hbl⟩ : ∃ bl, (l.drop p).take m = bl := ⟨_, rfl⟩
  have hlen : bl.length = m := by rw [← hbl, List.length_take, List.length_drop]; omega
  have HBL := Lib.hid hbl
  clear hbl
  go_enter Tryz.func138, Tryz.ntmps138
  go_wp2_with fail
  go_quiet (fail)
  go_wp2_with fail
  go_loopw [5, 6] (fun vv iv wr => ∃ i q : Nat, i ≤ m ∧ iv = .int .i64 i ∧ vv = .int .i64 (beN (bl.take i) : Nat) ∧ w.drewN q = wr) (fun _ iv _ => m - (intOf iv).toNat)
  case atStart => exact ⟨0, _, by omega, rfl, rfl, rfl⟩
  case round =>
   obtain ⟨i, q, hi, rfl, rfl, rfl⟩ := hrel
   have e0 := HC0.out q
   have e1 := HC1.out q
   have e3 := HC3.out q
   have ef := (HK.out q).frozen 1
   by_cases hlt : i < m
   ·
    have hbi : Hid (bl[i]? = l[p + i]?) := by
     show _ = _
     rw [← HBL.out, List.getElem?_take, if_pos hlt, List.getElem?_drop]
    obtain ⟨b, o, x, rfl, hb, hcb, hx, HX⟩ := (HR.out q).byteN (k := p + i) (by omega)
    have hv1 := be3 (bl.take i) (by rw [List.length_take]; omega)
    have hnx : Hid (beN (bl.take (i + 1)) = beN (bl.take i) * 256 + x) := by
     show _ = _
     have hi2 : i < bl.length := by omega
     have hpi : p + i < l.length := by omega
     rw [List.take_add_one, List.getElem?_eq_getElem hi2]
     show beN (bl.take i ++ [bl[i]]) = _
     rw [beN_snoc]
     have h8 := HX.out
     have h9 := hbi.out
     rw [List.getElem?_eq_getElem hi2, List.getElem?_eq_getElem hpi] at h9
     injection h9 with h9
     rw [List.getD, List.getElem?_eq_getElem hpi] at h8
     simp at h8
     rw [h9, h8]
    obtain ⟨v, hv⟩ : ∃ v, beN (bl.take i) = v := ⟨_, rfl⟩
    rw [hv] at hv1 hnx ⊢
    have hcs := Lib.hid (show ((v * 256 + x : Nat) : Int) = (v : Int) * 256 + (x : Int) by omega)
    have hpi : True → IntKind.i64.wrap ((p : Int) + (i : Int)) = (p : Int) + (i : Int) := fun _ => by rw [IntKind.wrap_i64]; omega
    have z1 : (0 : Int) ≤ (p : Int) + (i : Int) := by omega
    have z2 : (p : Int) + (i : Int) < (l.length : Int) := by omega
    have z3 : ((p : Int) + (i : Int)).toNat = p + i := by omega
    have hv2 : True → IntKind.i64.wrap ((v : Int) * 256) = (v : Int) * 256 := fun _ => by rw [IntKind.wrap_i64]; omega
    have hv3 : True → IntKind.i64.wrap ((v : Int) * 256 + (x : Int)) = (v : Int) * 256 + (x : Int) := fun _ => by rw [IntKind.wrap_i64]; omega
    have hcw : w.cell? ⟨b, o + (p + i), none⟩ = some (.int .u8 (x : Int)) := hcb
    clear hv hv1
    go_wp2_with fail
    go_quiet (fail)
    go_wp2_with fail
    exact ⟨⟨i + 1, _, by omega, by go_num, by rw [hnx.out, hcs.out], rfl⟩, by simp [intOf]; omega⟩
   ·
    obtain rfl : i = m := by omega
    rw [List.take_of_length_le (by omega)]
    go_wp2_with fail
    go_ret
    refine ⟨only_setCell (only_drewN (only_refl w _) q) (.inl rfl) _, .inr ⟨by omega, by rw [HBL.out]; rfl, HS.out q⟩⟩
end
section
open Go.RowKit
def RTermR (g : Nat) (l : List UInt8) (r : Except Int (Tm × Nat × Nat)) (w : World) (e : Ending) (w' : World) : Prop :=
 w.grownBy w' (some g) ∧ ∃ (kd nm : Int) (s : ByteArray) (A : Option Addr) (m cp : Nat), e = .returned (.agg #[.int .i64 kd, .int .i64 nm, .string s, .slice A m cp]) ∧
 match r with
 | .error c => RErr w' g c ∧ c ≠ 0
 | .ok (t, q, n') => TmV w' w.heap.size t [.int .i64 kd, .int .i64 nm, .string s, .slice A m cp] ∧ RRd w' g l q n'
def RTermOk (d : Nat) : Prop := ∀ (l : List UInt8) (g p n : Nat) (deep : Int) (w : World), deep + d = 17 → RRd w g l p n →
 Calls Tryz.prog 137 #[.pointer (some ⟨g, 0, none⟩), .int .i64 deep] w (RTermR g l (decT d l p n) w)
set_option maxRecDepth 20000 in
theorem node_big (l : List UInt8) (g p n : Nat) (deep : Int) (w : World) (h : RRd w g l p n) (hd : n = 64 ∨ deep = 17) (hd2 : deep ≤ 17) (hd3 : 0 ≤ deep) :
  Calls Tryz.prog 137 #[.pointer (some ⟨g, 0, none⟩), .int .i64 deep] w (RTermR g l (.error 4) w) := by
 have hgl := h.lt
 obtain ⟨h1, h2, h3, A, c, hc, hc2, hk, hr⟩ := h
 have hks : Blk (w.setCell ⟨g, 3, none⟩ (.int .i64 4)) g 180 #[.slice A l.length c, .int .i64 (p : Int), .int .i64 (64 - (n : Int)), .int .i64 4] := hk.set_ 3 (.int .i64 4)
 have c2 : w.cell? ⟨g, 2, none⟩ = some (.int .i64 (64 - (n : Int))) := hk.cell 2
 have c3 : w.cell? ⟨g, 3, none⟩ = some (.int .i64 0) := hk.cell 3
 have f3 := hk.frozen 3
 have hg0 := only_setCell (p := ⟨g, 3, none⟩) (only_refl w (some g)) (.inl rfl) (.int .i64 4)
 have hsz : (w.setCell ⟨g, 3, none⟩ (.int .i64 4)).heap.size = w.heap.size := by simp [World.setCell]
 have hb0 := Blk.new (w.setCell ⟨g, 3, none⟩ (.int .i64 4)) 139 #[.int .i64 0, .int .i64 0, .string ⟨#[]⟩, .slice none 0 0]
 rw [hsz] at hb0
 have HB0 := Lib.hid hb0
 have HG0 := Lib.hid (only_alloc hg0 (.cells #[.int .i64 0, .int .i64 0, .string ⟨#[]⟩, .slice none 0 0] 139))
 have HK0 := Lib.hid (hks.alloc (.cells #[.int .i64 0, .int .i64 0, .string ⟨#[]⟩, .slice none 0 0] 139))
 have hs2 : ((w.setCell ⟨g, 3, none⟩ (.int .i64 4)).alloc (.cells #[.int .i64 0, .int .i64 0, .string ⟨#[]⟩, .slice none 0 0] 139)).heap.size = w.heap.size + 1 := by simp [World.setCell]
 have HSZ := Lib.hid hs2
 clear hk hr hks hb0 hg0 hsz hs2
 by_cases h64 : n = 64
 ·
  have e1 : decide (64 - (n : Int) < 1) = true := by simp; omega
  clear hd h64
  go_enter Tryz.func137, Tryz.ntmps137
  go_upto_region 3 with (fail)
  generalize (w.setCell ⟨g, 3, none⟩ (.int .i64 4)).alloc (.cells #[.int .i64 0, .int .i64 0, .string ⟨#[]⟩, .slice none 0 0] 139) = W at HB0 HG0 HK0 HSZ ⊢
  have hb1 := HB0.out.alloc (.cells #[.int .i64 0, .int .i64 0, .string ⟨#[]⟩, .slice none 0 0] 139)
  have hbn := Blk.new W 139 #[.int .i64 0, .int .i64 0, .string ⟨#[]⟩, .slice none 0 0]
  have hk1 := HK0.out.alloc (.cells #[.int .i64 0, .int .i64 0, .string ⟨#[]⟩, .slice none 0 0] 139)
  have d3 : (W.alloc (.cells #[.int .i64 0, .int .i64 0, .string ⟨#[]⟩, .slice none 0 0] 139)).cell? ⟨g, 3, none⟩ = some (.int .i64 4) := hk1.cell 3
  go_wp2_with (first
   | (refine wpList_store_fresh W rfl 139 _ _ rfl _ #[.int .i64 0, .int .i64 0, .string ⟨#[]⟩, .slice none 0 0] _ rfl rfl rfl term_size (ones4 _ _ _ _ _ _) ?_)
   | (refine wpList_load_at rfl 139 _ rfl ⟨W.heap.size, 0, none⟩ rfl [.int .i64 0, .int .i64 0, .string ⟨#[]⟩, .slice none 0 0] _ (blk_cells hbn) Tryz.underlying139 rfl term_size ?_)
   | (refine wpList_store_blk rfl 139 _ _ rfl w.heap.size _ #[.int .i64 0, .int .i64 0, .string ⟨#[]⟩, .slice none 0 0] _ rfl rfl hb1 rfl term_size (ones4 _ _ _ _ _ _) ?_))
  refine bodyPost_ret (results_cell_row Tryz.results137 _ _ w.heap.size _ _ _ _ rfl hb1.setRow Tryz.underlying139 rfl (by kernel_rfl)) rfl ?_
  exact ⟨only_setRow (only_alloc HG0.out _) (Nat.le_refl _) _, 0, 0, ⟨#[]⟩, none, 0, 0, rfl, ⟨_, _, _, hk1.setOther (by omega) _⟩, by decide⟩
 ·
  have e1 : decide (64 - (n : Int) < 1) = false := by simp; omega
  have e2 : decide (16 < deep) = true := by simp; omega
  clear hd h64
  go_enter Tryz.func137, Tryz.ntmps137
  go_upto_region 3 with (fail)
  generalize (w.setCell ⟨g, 3, none⟩ (.int .i64 4)).alloc (.cells #[.int .i64 0, .int .i64 0, .string ⟨#[]⟩, .slice none 0 0] 139) = W at HB0 HG0 HK0 HSZ ⊢
  have hb1 := HB0.out.alloc (.cells #[.int .i64 0, .int .i64 0, .string ⟨#[]⟩, .slice none 0 0] 139)
  have hbn := Blk.new W 139 #[.int .i64 0, .int .i64 0, .string ⟨#[]⟩, .slice none 0 0]
  have hk1 := HK0.out.alloc (.cells #[.int .i64 0, .int .i64 0, .string ⟨#[]⟩, .slice none 0 0] 139)
  have d3 : (W.alloc (.cells #[.int .i64 0, .int .i64 0, .string ⟨#[]⟩, .slice none 0 0] 139)).cell? ⟨g, 3, none⟩ = some (.int .i64 4) := hk1.cell 3
  go_wp2_with (first
   | (refine wpList_store_fresh W rfl 139 _ _ rfl _ #[.int .i64 0, .int .i64 0, .string ⟨#[]⟩, .slice none 0 0] _ rfl rfl rfl term_size (ones4 _ _ _ _ _ _) ?_)
   | (refine wpList_load_at rfl 139 _ rfl ⟨W.heap.size, 0, none⟩ rfl [.int .i64 0, .int .i64 0, .string ⟨#[]⟩, .slice none 0 0] _ (blk_cells hbn) Tryz.underlying139 rfl term_size ?_)
   | (refine wpList_store_blk rfl 139 _ _ rfl w.heap.size _ #[.int .i64 0, .int .i64 0, .string ⟨#[]⟩, .slice none 0 0] _ rfl rfl hb1 rfl term_size (ones4 _ _ _ _ _ _) ?_))
  refine bodyPost_ret (results_cell_row Tryz.results137 _ _ w.heap.size _ _ _ _ rfl hb1.setRow Tryz.underlying139 rfl (by kernel_rfl)) rfl ?_
  exact ⟨only_setRow (only_alloc HG0.out _) (Nat.le_refl _) _, 0, 0, ⟨#[]⟩, none, 0, 0, rfl, ⟨_, _, _, hk1.setOther (by omega) _⟩, by decide⟩
end
section
open Go.RowKit
def KidsSt (lo : Nat) (wr : World) (v : Value) (i : Nat) (ts : List Tm) (vs : List (List Value)) : Prop :=
 TmsV wr lo ts vs ∧ (i ≤ 1 → ∃ wk : World, TmsV wk lo ts vs ∧ wk.heap.size ≤ wr.heap.size ∧ (∀ p : Addr, p.block < wk.heap.size → lo ≤ p.block → wr.cell? p = wk.cell? p) ∧ (∀ gb, v.ownBlock = some gb → wk.heap.size ≤ gb)) ∧ (i = 0 → v.ownBlock = none)
theorem KidsSt.same {lo : Nat} {wr w' : World} {v : Value} {i : Nat} {ts : List Tm} {vs : List (List Value)} (h : KidsSt lo wr v i ts vs) (hs : wr.heap.size ≤ w'.heap.size) (hk : ∀ p : Addr, p.block < wr.heap.size → lo ≤ p.block → w'.cell? p = wr.cell? p) : KidsSt lo w' v i ts vs := by
 refine ⟨TmsV.keep hk (Nat.le_refl _) hs ts vs h.1, fun hi => ?_, h.2.2⟩
 obtain ⟨wk, h1, h2, h3, h4⟩ := h.2.1 hi
 exact ⟨wk, h1, by omega, fun p hp hl => (hk p (by omega) hl).trans (h3 p hp hl), h4⟩
theorem KidsSt.next {lo : Nat} {wr w5 w6 w' : World} {v v' : Value} {i g : Nat} {ts : List Tm} {vs : List (List Value)} {t : Tm} {cs : List Value} (h : KidsSt lo wr v i ts vs) (hi : i ≤ 1)
  (hg : wr.grownBy w5 (some g)) (hgl : g < lo) (hlo : lo ≤ wr.heap.size) (ht : TmV w5 wr.heap.size t cs) (h56 : Below w5.heap.size w5 w6) (hg6 : w6.grownBy w' v.ownBlock) (hat : v'.ownBlock = v.ownBlock ∨ v'.ownBlock = some w6.heap.size) (hlt : ∀ gb, v.ownBlock = some gb → gb < wr.heap.size) : KidsSt lo w' v' (i + 1) (ts ++ [t]) (vs ++ [cs]) := by
 obtain ⟨wk, h1, h2, h3, h4⟩ := h.2.1 hi
 have s5 := hg.size
 have s6 := h56.size
 have s7 := hg6.size
 have c65 : ∀ p : Addr, p.block < w5.heap.size → w6.cell? p = w5.cell? p := fun p hp => h56.cell hp
 have c76 : ∀ p : Addr, p.block < w6.heap.size → some p.block ≠ v.ownBlock → w'.cell? p = w6.cell? p := fun p hp hne => World.cell?_of_block (hg6.block _ hp hne)
 have c5r : ∀ p : Addr, p.block < wr.heap.size → lo ≤ p.block → w5.cell? p = wr.cell? p := fun p hp hl => World.cell?_of_block (hg.block _ hp (fun e => by injection e with e; omega))
 have ck : ∀ p : Addr, p.block < wk.heap.size → lo ≤ p.block → w'.cell? p = wk.cell? p := fun p hp hl =>
  (c76 p (by omega) (fun e => by have := h4 _ e.symm; omega)).trans ((c65 p (by omega)).trans ((c5r p (by omega) hl).trans (h3 p hp hl)))
 have k1 : TmsV w' lo ts vs := TmsV.keep ck (Nat.le_refl _) (by omega) ts vs h1
 have k2 : TmV w' lo t cs := TmV.keep (fun p hp hl => (c76 p (by omega) (fun e => by have := hlt _ e.symm; omega)).trans (c65 p hp)) hlo (by omega) t cs ht
 refine ⟨TmsV.snoc k2 k1, fun h01 => ?_, fun e => by omega⟩
 have hi0 : i = 0 := by omega
 have hv := h.2.2 hi0
 refine ⟨w5, ?_, by omega, fun p hp hl => (c76 p (by omega) (fun e => by rw [hv] at e; cases e)).trans (c65 p hp), fun gb e => ?_⟩
 ·
  exact TmsV.snoc (ht.low hlo) (TmsV.keep (fun p hp hl => (c5r p (by omega) hl).trans (h3 p hp hl)) (Nat.le_refl _) (by omega) ts vs h1)
 ·
  rcases hat with h | h
  ·
   rw [h, hv] at e; cases e
  ·
   rw [h] at e; injection e with e; omega
def NodeSt (d : Nat) (l : List UInt8) (g n : Nat) (R : Except Int (Tm × Nat × Nat)) (w : World) (K : Nat) (kd nm : Int) (s : ByteArray) (i : Nat) (wr : World) : Prop :=
 Hid (w.grownBy wr (some g)) ∧ Hid (Blk wr w.heap.size 139 #[.int .i64 0, .int .i64 0, .string ⟨#[]⟩, .slice none 0 0]) ∧ w.heap.size + 2 ≤ wr.heap.size ∧ ∃ (A : Option Addr) (m cp : Nat), Hid (Blk wr (w.heap.size + 1) 139 #[.int .i64 kd, .int .i64 nm, .string s, .slice A m cp]) ∧
  ((∃ c, Hid (c ≠ 0) ∧ Hid (R = .error c) ∧ Hid (RErr wr g c)) ∨
   (∃ q ts vs q' n', Hid (R = match decK K d l q (n + 1) with | .error e => .error e | .ok (ks, q', n') => .ok (.mk kd nm s ks, q', n')) ∧ m = i ∧ ts.length = i ∧ Hid (decK i d l q (n + 1) = .ok (ts, q', n')) ∧ Hid (RRd wr g l q' n') ∧ Hid (wr.ownsRow (w.heap.size + 2) 139 4 (.slice A m cp) i (List.flatten vs)) ∧ Hid (KidsSt (w.heap.size + 2) wr (.slice A m cp) i ts vs)))
def NodeMid (d : Nat) (l : List UInt8) (g n : Nat) (R : Except Int (Tm × Nat × Nat)) (w : World) (kv : Value) (wx : World) : Prop :=
 Hid (w.grownBy wx (some g)) ∧ Hid (Blk wx w.heap.size 139 #[.int .i64 0, .int .i64 0, .string ⟨#[]⟩, .slice none 0 0]) ∧ w.heap.size + 2 ≤ wx.heap.size ∧ ∃ (kd nm : Int) (s : ByteArray) (K : Nat), kv = .int .i64 (K : Int) ∧ K ≤ 2 ∧ Hid (Blk wx (w.heap.size + 1) 139 #[.int .i64 kd, .int .i64 nm, .string s, .slice none 0 0]) ∧
  ((K = 0 ∧ ∃ c, Hid (c ≠ 0) ∧ Hid (R = .error c) ∧ Hid (RErr wx g c)) ∨
   (∃ q, Hid (RRd wx g l q (n + 1)) ∧ Hid (K ≠ 0 → nm = 0 ∧ s = ⟨#[]⟩) ∧ Hid (R = match decK K d l q (n + 1) with | .error e => .error e | .ok (ks, q', n') => .ok (.mk kd nm s ks, q', n'))))
theorem RErr.three {w : World} {g : Nat} {e : Int} (h : RErr w g e) : w.cell? ⟨g, 3, none⟩ = some (.int .i64 e) := by
 obtain ⟨v, a, b, hk⟩ := h
 exact hk.cell 3
theorem RRd.three {w : World} {g : Nat} {l : List UInt8} {p n : Nat} (h : RRd w g l p n) : w.cell? ⟨g, 3, none⟩ = some (.int .i64 0) ∧ w.frozen? ⟨g, 3, none⟩ = false := by
 obtain ⟨_, _, _, A, c, _, _, hk, _⟩ := h
 exact ⟨hk.cell 3, hk.frozen 3⟩
theorem RRd.fail {w : World} {g : Nat} {l : List UInt8} {p n : Nat} (h : RRd w g l p n) (e : Int) : RErr (w.setCell ⟨g, 3, none⟩ (.int .i64 e)) g e := by
 obtain ⟨_, _, _, A, c, _, _, hk, _⟩ := h
 exact ⟨_, _, _, hk.set_ 3 (.int .i64 e)⟩
theorem RErr.drewN {w : World} {g : Nat} {e : Int} (h : RErr w g e) (q : Nat) : RErr (w.drewN q) g e := h
theorem RRd.drewN {w : World} {g : Nat} {l : List UInt8} {p n : Nat} (h : RRd w g l p n) (q : Nat) : RRd (w.drewN q) g l p n := h
theorem node_fin {d g n K i q q' n' m5 cp5 : Nat} {l : List UInt8} {R : Except Int (Tm × Nat × Nat)} {w wr w5 w6 : World} {kd nm kd5 nm5 : Int} {s s5 : ByteArray} {A A5 : Option Addr} {cp : Nat} {ts : List Tm} {vs : List (List Value)} {v' : Value}
  (hg : w.grownBy wr (some g)) (hz : Blk wr w.heap.size 139 #[.int .i64 0, .int .i64 0, .string ⟨#[]⟩, .slice none 0 0]) (hsz : w.heap.size + 2 ≤ wr.heap.size) (hx : Blk wr (w.heap.size + 1) 139 #[.int .i64 kd, .int .i64 nm, .string s, .slice A i cp]) (hgl : g < w.heap.size) (hrd : RRd wr g l q' n')
  (hown : wr.ownsRow (w.heap.size + 2) 139 4 (.slice A i cp) i (List.flatten vs)) (hks : KidsSt (w.heap.size + 2) wr (.slice A i cp) i ts vs) (hdk : decK i d l q (n + 1) = .ok (ts, q', n')) (hRd : R = match decK K d l q (n + 1) with | .error e => .error e | .ok (ks, q', n') => .ok (.mk kd nm s ks, q', n')) (hlen : ts.length = i) (hlt : i < K) (hK : K ≤ 2)
  (hg5 : wr.grownBy w5 (some g))
  (hr5 : match decT d l q' n' with | .error c => RErr w5 g c ∧ c ≠ 0 | .ok (t, q, n') => TmV w5 wr.heap.size t [.int .i64 kd5, .int .i64 nm5, .string s5, .slice A5 m5 cp5] ∧ RRd w5 g l q n')
  (hown6 : w6.ownsRow (w.heap.size + 2) 139 4 v' (i + 1) (List.flatten vs ++ [.int .i64 kd5, .int .i64 nm5, .string s5, .slice A5 m5 cp5])) (hg6 : (w5.alloc (.cells #[.int .i64 kd5, .int .i64 nm5, .string s5, .slice A5 m5 cp5] 139)).grownBy w6 (Value.slice A i cp).ownBlock)
  (hat6 : v'.ownBlock = (Value.slice A i cp).ownBlock ∨ v'.ownBlock = some (w5.alloc (.cells #[.int .i64 kd5, .int .i64 nm5, .string s5, .slice A5 m5 cp5] 139)).heap.size) :
  NodeSt d l g n R w K kd nm s (i + 1) (w6.setCell ⟨w.heap.size + 1, 3, none⟩ v') := by
 obtain ⟨A7, c7, rfl, hc7, _⟩ := own_reads hown6 (Nat.le_refl _)
 have hs5 := hg5.size
 have hs6 := hg6.size
 rw [show (w5.alloc (.cells #[.int .i64 kd5, .int .i64 nm5, .string s5, .slice A5 m5 cp5] 139)).heap.size = w5.heap.size + 1 by simp] at hs6
 have h56 : Below w5.heap.size w5 (w5.alloc (.cells #[.int .i64 kd5, .int .i64 nm5, .string s5, .slice A5 m5 cp5] 139)) := (Below.refl _ _).alloc (Nat.le_refl _) _
 have hrow : ∀ k, k < w.heap.size + 2 → some k ≠ (Value.slice A i cp).ownBlock := fun k hk e => by have := (hown.lt _ e.symm).1; omega
 have hx6 : Blk w6 (w.heap.size + 1) 139 #[.int .i64 kd, .int .i64 nm, .string s, .slice A i cp] := ((hx.grown hg5 (fun e => by injection e with e; omega)).alloc _).grown hg6 (hrow _ (by omega))
 have hz6 : Blk w6 w.heap.size 139 #[.int .i64 0, .int .i64 0, .string ⟨#[]⟩, .slice none 0 0] := ((hz.grown hg5 (fun e => by injection e with e; omega)).alloc _).grown hg6 (hrow _ (by omega))
 have hx7 : Blk (w6.setCell ⟨w.heap.size + 1, 3, none⟩ (.slice A7 (i + 1) c7)) (w.heap.size + 1) 139 #[.int .i64 kd, .int .i64 nm, .string s, .slice A7 (i + 1) c7] := hx6.set_ 3 _
 have hz7 := hz6.far (p := ⟨w.heap.size + 1, 3, none⟩) (by show w.heap.size ≠ w.heap.size + 1; omega) (.slice A7 (i + 1) c7)
 have hgA : w.grownBy (w5.alloc (.cells #[.int .i64 kd5, .int .i64 nm5, .string s5, .slice A5 m5 cp5] 139)) (some g) := only_alloc (only_trans hg hg5) _
 have hg7 := only_setCell (p := ⟨w.heap.size + 1, 3, none⟩) (only_grown hgA hg6 (fun q e => by have := (hown.lt q e).1; omega)) (.inr (Nat.le_succ _)) (.slice A7 (i + 1) c7)
 have hsz7 : (w6.setCell ⟨w.heap.size + 1, 3, none⟩ (.slice A7 (i + 1) c7)).heap.size = w6.heap.size := by simp [World.setCell]
 refine ⟨hg7, hz7, by rw [hsz7]; omega, A7, i + 1, c7, hx7, ?_⟩
 cases hD : decT d l q' n' with
 | error c =>
  rw [hD] at hr5
  obtain ⟨v, a, b, hk⟩ := hr5.1
  refine .inl ⟨c, hr5.2, ?_, v, a, b, ?_⟩
  ·
   show _ = _
   rw [hRd, show K = i + (1 + (K - i - 1)) by omega, decK_add, hdk]
   simp only
   rw [decK_add, decK_one, hD]
  ·
   exact ((hk.alloc _).grown hg6 (hrow _ (by omega))).far (by show g ≠ w.heap.size + 1; omega) _
 | ok r =>
  obtain ⟨t, q2, n2⟩ := r
  rw [hD] at hr5
  obtain ⟨htv, hrd5⟩ := hr5
  have hks7 := hks.next (by omega) hg5 (by omega) hsz htv h56 hg6 hat6 (fun gb e => (hown.lt gb e).2)
  refine .inr ⟨q, ts ++ [t], vs ++ [[.int .i64 kd5, .int .i64 nm5, .string s5, .slice A5 m5 cp5]], q2, n2, hRd, rfl, by rw [List.length_append, hlen]; rfl, ?_, ?_, ?_, ?_⟩
  ·
   show _ = _
   rw [decK_add, hdk]
   simp only
   rw [decK_one, hD]
  ·
   refine RRd.grown (w := w6) ?_ (only_setCell (p := ⟨w.heap.size + 1, 3, none⟩) (only_refl w6 (some (w.heap.size + 1))) (.inl rfl) _) (fun q e => by injection e with e; omega)
   exact (hrd5.grown (only_alloc (only_refl w5 none) (.cells #[.int .i64 kd5, .int .i64 nm5, .string s5, .slice A5 m5 cp5] 139)) (fun q e => by cases e)).grown hg6 (fun q e => by have := (hown.lt q e).1; omega)
  ·
   show World.ownsRow _ _ _ _ _ _ _
   rw [List.flatten_append]
   have := own_only (g := w.heap.size + 1) hown6 (only_setCell (p := ⟨w.heap.size + 1, 3, none⟩) (only_refl w6 (some (w.heap.size + 1))) (.inl rfl) (.slice A7 (i + 1) c7)) (by omega)
   simpa using this
  ·
   exact hks7.same (by rw [hsz7]; exact Nat.le_refl _) (fun p hp hl => World.cell?_setCell_other w6 _ _ _ (fun e => by rw [← e] at hl; simp at hl <;> omega))
set_option maxRecDepth 20000 in
theorem node_succ (d : Nat) (hd16 : d ≤ 16) (hT : RTermOk d) : RTermOk (d + 1) := by
 intro l g p n deep w hdp h
 by_cases h64 : n = 64
 ·
  rw [decT, if_pos (by omega)]
  exact node_big l g p n deep w h (.inl h64) (by omega) (by omega)
 have hnn : n ≤ 64 := h.2.2.1
 obtain ⟨R, hR⟩ : ∃ R, decT (d + 1) l p n = R := ⟨_, rfl⟩
 rw [hR]
 rw [decT, if_neg (by omega)] at hR
 have HRR := Lib.hid hR
 clear hR
 have hgl := h.lt
 obtain ⟨h1, h2, h3, A, c, hc, hc2, hk, hr⟩ := h
 have hn64 : n < 64 := by omega
 have e1 : decide (64 - (n : Int) < 1) = false := by simp; omega
 have e2 : decide (16 < deep) = false := by simp; omega
 have c2 : w.cell? ⟨g, 2, none⟩ = some (.int .i64 (64 - (n : Int))) := hk.cell 2
 have c3 : w.cell? ⟨g, 3, none⟩ = some (.int .i64 0) := hk.cell 3
 have hwd : True → wrap64 (deep + 1) = deep + 1 := fun _ => by unfold wrap64; omega
 have hdp1 : deep + 1 + (d : Int) = 17 := by omega
 have HB0 := Lib.hid (Blk.new w 139 #[.int .i64 0, .int .i64 0, .string ⟨#[]⟩, .slice none 0 0])
 have HG0 := Lib.hid (only_alloc (only_refl w (some g)) (.cells #[.int .i64 0, .int .i64 0, .string ⟨#[]⟩, .slice none 0 0] 139))
 have HK0 := Lib.hid (hk.alloc (.cells #[.int .i64 0, .int .i64 0, .string ⟨#[]⟩, .slice none 0 0] 139))
 have hs2 : (w.alloc (.cells #[.int .i64 0, .int .i64 0, .string ⟨#[]⟩, .slice none 0 0] 139)).heap.size = w.heap.size + 1 := by simp
 have hr0 := (hr.below ((Below.refl g w).alloc (by omega) (.cells #[.int .i64 0, .int .i64 0, .string ⟨#[]⟩, .slice none 0 0] 139)))
 have HR0 := Lib.hid hr0
 have HSZ := Lib.hid hs2
 clear hk hr hs2 hdp h64 hr0
 go_enter Tryz.func137, Tryz.ntmps137
 go_upto_region 3 with (fail)
 generalize w.alloc (.cells #[.int .i64 0, .int .i64 0, .string ⟨#[]⟩, .slice none 0 0] 139) = W at HB0 HG0 HK0 HR0 HSZ ⊢
 have hk1 := HK0.out.alloc (.cells #[.int .i64 0, .int .i64 0, .string ⟨#[]⟩, .slice none 0 0] 139)
 have d2 : (W.alloc (.cells #[.int .i64 0, .int .i64 0, .string ⟨#[]⟩, .slice none 0 0] 139)).cell? ⟨g, 2, none⟩ = some (.int .i64 (64 - (n : Int))) := hk1.cell 2
 have d3 : (W.alloc (.cells #[.int .i64 0, .int .i64 0, .string ⟨#[]⟩, .slice none 0 0] 139)).cell? ⟨g, 3, none⟩ = some (.int .i64 0) := hk1.cell 3
 have f2 := hk1.frozen 2
 have hwn : True → wrap64 (64 - (n : Int) - 1) = 64 - ((n + 1 : Nat) : Int) := fun _ => by unfold wrap64; omega
 clear c2 c3
 go_upto_region 7 with (refine wpList_store_fresh W rfl 139 _ _ rfl _ #[.int .i64 0, .int .i64 0, .string ⟨#[]⟩, .slice none 0 0] _ rfl rfl rfl term_size (ones4 _ _ _ _ _ _) ?_)
 rw [show (64 - (n : Int) - 1) = 64 - ((n + 1 : Nat) : Int) by omega]
 have hk2 : Blk ((W.alloc (.cells #[.int .i64 0, .int .i64 0, .string ⟨#[]⟩, .slice none 0 0] 139)).setCell ⟨g, 2, none⟩ (.int .i64 (64 - ((n + 1 : Nat) : Int)))) g 180 #[.slice A l.length c, .int .i64 (p : Int), .int .i64 (64 - ((n + 1 : Nat) : Int)), .int .i64 0] := hk1.set_ 2 (.int .i64 (64 - ((n + 1 : Nat) : Int)))
 have HG2 := Lib.hid (only_setCell (p := ⟨g, 2, none⟩) (only_alloc HG0.out (.cells #[.int .i64 0, .int .i64 0, .string ⟨#[]⟩, .slice none 0 0] 139)) (.inl rfl) (.int .i64 (64 - ((n + 1 : Nat) : Int))))
 have HZ0 := Lib.hid ((HB0.out.alloc (.cells #[.int .i64 0, .int .i64 0, .string ⟨#[]⟩, .slice none 0 0] 139)).far (p := ⟨g, 2, none⟩) (by show w.heap.size ≠ g; omega) (.int .i64 (64 - ((n + 1 : Nat) : Int))))
 have hz1 := (Blk.new W 139 #[.int .i64 0, .int .i64 0, .string ⟨#[]⟩, .slice none 0 0]).far (p := ⟨g, 2, none⟩) (by show W.heap.size ≠ g; rw [HSZ.out]; omega) (.int .i64 (64 - ((n + 1 : Nat) : Int)))
 rw [HSZ.out] at hz1 ⊢
 have HZ1 := Lib.hid hz1
 have HR2 : Hid (Reads ((W.alloc (.cells #[.int .i64 0, .int .i64 0, .string ⟨#[]⟩, .slice none 0 0] 139)).setCell ⟨g, 2, none⟩ (.int .i64 (64 - ((n + 1 : Nat) : Int)))) g 1 A l.length (Lib.byteCells l)) := (HR0.out.below ((Below.refl g W).alloc (by rw [HSZ.out]; omega) (.cells #[.int .i64 0, .int .i64 0, .string ⟨#[]⟩, .slice none 0 0] 139))).setCell (Nat.le_refl _) _
 have HRD : Hid (RRd ((W.alloc (.cells #[.int .i64 0, .int .i64 0, .string ⟨#[]⟩, .slice none 0 0] 139)).setCell ⟨g, 2, none⟩ (.int .i64 (64 - ((n + 1 : Nat) : Int)))) g l p (n + 1)) := ⟨h1, h2, by omega, A, c, hc, hc2, hk2, HR2.out⟩
 have hs2 : w.heap.size + 2 ≤ ((W.alloc (.cells #[.int .i64 0, .int .i64 0, .string ⟨#[]⟩, .slice none 0 0] 139)).setCell ⟨g, 2, none⟩ (.int .i64 (64 - ((n + 1 : Nat) : Int)))).heap.size := by
  have := HSZ.out
  simp [World.setCell, this]
 generalize (W.alloc (.cells #[.int .i64 0, .int .i64 0, .string ⟨#[]⟩, .slice none 0 0] 139)).setCell ⟨g, 2, none⟩ (.int .i64 (64 - ((n + 1 : Nat) : Int))) = W2 at HG2 HZ0 HZ1 HRD hs2 ⊢
 clear hk1 hk2 hz1 HR2 HB0 HG0 HK0 HR0 HSZ d2 d3 f2 hwn
 have cn := Lib.hid (rnum_walk l g p (n + 1) 1 W2 HRD.out (by omega))
 go_wp2_with fail
 refine cn.out.mono ?_
 rintro _ w1 ⟨hg1, ⟨hs, rfl, hre⟩ | ⟨hs, rfl, hrd1⟩⟩
 ·
  have HE := Lib.hid hre
  have r3 := hre.three
  have hz1 := HZ1.out.grown hg1 (fun e => by injection e with e; omega)
  have hz0 := HZ0.out.grown hg1 (fun e => by injection e with e; omega)
  have kf := hz1.frozen 0
  have k0 : w1.cell? ⟨w.heap.size + 1, 0, none⟩ = some (.int .i64 0) := hz1.cell 0
  have hb2 : Blk (w1.setCell ⟨w.heap.size + 1, 0, none⟩ (.int .i64 0)) (w.heap.size + 1) 139 #[.int .i64 0, .int .i64 0, .string ⟨#[]⟩, .slice none 0 0] := hz1.set_ 0 (.int .i64 0)
  have hb0 := hz0.far (p := ⟨w.heap.size + 1, 0, none⟩) (by show w.heap.size ≠ w.heap.size + 1; omega) (.int .i64 0)
  have HG := Lib.hid (only_setCell (p := ⟨w.heap.size + 1, 0, none⟩) (only_trans HG2.out hg1) (.inr (Nat.le_succ _)) (.int .i64 0))
  have he1 : RErr (w1.setCell ⟨w.heap.size + 1, 0, none⟩ (.int .i64 0)) g 1 := hre.grown (only_setCell (p := ⟨w.heap.size + 1, 0, none⟩) (only_refl w1 (some (w.heap.size + 1))) (.inl rfl) (.int .i64 0)) (fun q e => by injection e with e; omega)
  have HRE : Hid (R = .error 1) := by
   have h := HRR.out
   rw [List.getElem?_eq_none (show l.length ≤ p by omega)] at h
   exact h.symm
  clear hz1 hz0 hre hg1 HRR cn r3 HE
  go_upto_block 0 with (fail)
  generalize w1.setCell ⟨w.heap.size + 1, 0, none⟩ (.int .i64 0) = W3 at hb2 hb0 HG he1 ⊢
  have r3 := he1.three
  have HB2 := Lib.hid hb2
  have HB0 := Lib.hid hb0
  have HE1 := Lib.hid he1
  clear hb2 hb0 he1 k0 kf
  go_wp2_with fail
  go_loopw [8] (fun iv wr => iv = .int .i64 0 ∧ W3 = wr) (fun _ _ => 0)
  case atStart => exact ⟨rfl, rfl⟩
  case round =>
   obtain ⟨rfl, rfl⟩ := hrel
   have hxx := HB2.out
   have hzz := HB0.out
   go_wp2_with (first
    | (refine wpList_load_at rfl 139 _ rfl ⟨w.heap.size + 1, 0, none⟩ rfl [.int .i64 0, .int .i64 0, .string ⟨#[]⟩, .slice none 0 0] _ (blk_cells hxx) Tryz.underlying139 rfl term_size ?_)
    | (refine wpList_store_blk rfl 139 _ _ rfl w.heap.size _ #[.int .i64 0, .int .i64 0, .string ⟨#[]⟩, .slice none 0 0] _ rfl rfl hzz rfl term_size (ones4 _ _ _ _ _ _) ?_))
   refine bodyPost_ret (results_cell_row Tryz.results137 _ _ w.heap.size _ _ _ _ rfl hzz.setRow Tryz.underlying139 rfl (by kernel_rfl)) rfl ?_
   exact ⟨only_setRow HG.out (Nat.le_refl _) _, 0, 0, ⟨#[]⟩, none, 0, 0, rfl, by rw [HRE.out]; exact ⟨HE1.out.grown (setRow_only _ w.heap.size _) (fun q e => by injection e with e; omega), by decide⟩⟩
 ·
  have hb1 := HZ1.out.grown hg1 (fun e => by injection e with e; omega)
  have hb0 := HZ0.out.grown hg1 (fun e => by injection e with e; omega)
  obtain ⟨x, hx⟩ : ∃ x, beN ((l.drop p).take 1) = x := ⟨_, rfl⟩
  have hx2 : ∃ b : UInt8, l[p]? = some b ∧ b.toNat = x := by
   have hpl : p < l.length := by omega
   refine ⟨l[p], List.getElem?_eq_getElem hpl, ?_⟩
   rw [← hx, List.drop_eq_getElem_cons hpl, List.take_succ_cons, List.take_zero]
   simp [beN]
  obtain ⟨b, hb, hbx⟩ := hx2
  have hx256 : x < 256 := by rw [← hbx]; exact b.toNat_lt
  have HB := Lib.hid hb
  have HBX := Lib.hid hbx
  rw [hx]
  clear hb hbx hx
  have k0 : w1.cell? ⟨w.heap.size + 1, 0, none⟩ = some (.int .i64 0) := hb1.cell 0
  have kf := hb1.frozen 0
  have hb2 : Blk (w1.setCell ⟨w.heap.size + 1, 0, none⟩ (.int .i64 (x : Int))) (w.heap.size + 1) 139 #[.int .i64 (x : Int), .int .i64 0, .string ⟨#[]⟩, .slice none 0 0] := hb1.set_ 0 (.int .i64 (x : Int))
  have HX1 := Lib.hid hb2
  have HX0 := Lib.hid (hb0.far (p := ⟨w.heap.size + 1, 0, none⟩) (by show w.heap.size ≠ w.heap.size + 1; omega) (.int .i64 (x : Int)))
  have hgs := hg1.size
  have HG := Lib.hid (only_setCell (p := ⟨w.heap.size + 1, 0, none⟩) (only_trans HG2.out hg1) (.inr (Nat.le_succ _)) (.int .i64 (x : Int)))
  have HRT := Lib.hid (hrd1.grown (only_setCell (p := ⟨w.heap.size + 1, 0, none⟩) (only_refl w1 (some (w.heap.size + 1))) (.inl rfl) (.int .i64 (x : Int))) (fun q e => by injection e with e; omega))
  have hsz2 : w.heap.size + 2 ≤ (w1.setCell ⟨w.heap.size + 1, 0, none⟩ (.int .i64 (x : Int))).heap.size := by simp [World.setCell]; omega
  clear hg1 hrd1 hb1 hb0 hb2 HG2 HZ0 HZ1 HRD cn
  go_upto_block 0 with (fail)
  generalize w1.setCell ⟨w.heap.size + 1, 0, none⟩ (.int .i64 (x : Int)) = W3 at HX1 HX0 HG HRT hsz2 ⊢
  have HRX : Hid ((if x = 1 then (match atomT l (p + 1) with | .error e => .error e | .ok (s, q) => .ok (.mk 1 0 s [], q, n + 1)) else if x = 2 then (match numT l (p + 1) 4 1073741824 with | .error e => .error e | .ok (m, q) => .ok (.mk 2 m ⟨#[]⟩ [], q, n + 1)) else if x = 3 ∨ x = 4 then (match decK 1 d l (p + 1) (n + 1) with | .error e => .error e | .ok (ks, q, n') => .ok (.mk x 0 ⟨#[]⟩ ks, q, n')) else if x = 5 ∨ x = 6 ∨ x = 7 then (match decK 2 d l (p + 1) (n + 1) with | .error e => .error e | .ok (ks, q, n') => .ok (.mk x 0 ⟨#[]⟩ ks, q, n')) else .error 2) = R) := by
   have h := HRR.out
   rw [HB.out] at h
   simp only [HBX.out] at h
   exact h
  clear HRR HB HBX k0 kf
  go_cut [6, 7] (fun kv tv wx => NodeMid d l g n R w kv wx)
  case first =>
   obtain ⟨r3, f3⟩ := HRT.out.three
   rcases show x = 1 ∨ x = 2 ∨ x = 3 ∨ x = 4 ∨ x = 5 ∨ x = 6 ∨ x = 7 ∨ (x ≠ 1 ∧ x ≠ 2 ∧ x ≠ 3 ∧ x ≠ 4 ∧ x ≠ 5 ∧ x ≠ 6 ∧ x ≠ 7) by omega with hc | hc | hc | hc | hc | hc | hc | hc
   ·
    have y1 : ((x : Int) == 1) = true := by rw [beq_iff_eq]; omega
    have y2 : ((x : Int) == 2) = false := by rw [beq_eq_false_iff_ne]; omega
    have y3 : ((x : Int) == 3) = false := by rw [beq_eq_false_iff_ne]; omega
    have y4 : ((x : Int) == 4) = false := by rw [beq_eq_false_iff_ne]; omega
    have y5 : ((x : Int) == 5) = false := by rw [beq_eq_false_iff_ne]; omega
    have y6 : ((x : Int) == 6) = false := by rw [beq_eq_false_iff_ne]; omega
    have y7 : ((x : Int) == 7) = false := by rw [beq_eq_false_iff_ne]; omega
    have HC := Lib.hid hc
    clear hc
    have cm := Lib.hid (rnum_walk l g (p + 1) (n + 1) 2 W3 HRT.out (by omega))
    clear r3 f3
    go_wp2_with fail
    refine cm.out.mono ?_
    rintro _ w4 ⟨hg4, ⟨hs4, rfl, hre⟩ | ⟨hs4, rfl, hrd4⟩⟩
    ·
     have HX2 := Lib.hid (HX1.out.grown hg4 (fun e => by injection e with e; omega))
     have HXZ := Lib.hid (HX0.out.grown hg4 (fun e => by injection e with e; omega))
     have hgs := hg4.size
     have r3 := hre.three
     have HG4 := Lib.hid (only_trans HG.out hg4)
     have HE4 := Lib.hid hre
     have HS4 := Lib.hid hs4
     clear hg4 hre cm hs4
     go_wp2_with fail
     go_quiet (fail)
     go_wp2_with fail
     go_meet
     refine ⟨only_drewN HG4.out _, HXZ.out.drewN _, by show _ ≤ w4.heap.size; omega, x, 0, ⟨#[]⟩, 0, rfl, by omega, HX2.out.drewN _, .inl ⟨rfl, 1, (by show (1 : Int) ≠ 0; decide), ?_, HE4.out.drewN _⟩⟩
     show _ = _
     rw [← HRX.out]
     have := HC.out
     rw [if_pos (by omega), atomT, numT, if_pos HS4.out]
    ·
     obtain ⟨m, hm⟩ : ∃ m, beN ((l.drop (p + 1)).take 2) = m := ⟨_, rfl⟩
     have hm4 : m < 4294967296 := by rw [← hm]; exact be4 _ (by rw [List.length_take]; omega)
     have HM := Lib.hid hm
     rw [hm]
     clear hm
     have HX2 := Lib.hid (HX1.out.grown hg4 (fun e => by injection e with e; omega))
     have HXZ := Lib.hid (HX0.out.grown hg4 (fun e => by injection e with e; omega))
     have hgs := hg4.size
     have HG4 := Lib.hid (only_trans HG.out hg4)
     have HR4 := Lib.hid hrd4
     obtain ⟨d3, f3⟩ := hrd4.three
     obtain ⟨_, q2, _, A4, c4, hc4, hc5, hk4, hr4⟩ := hrd4
     have HK4 := Lib.hid hk4
     have d0 : w4.cell? ⟨g, 0, none⟩ = some (.slice A4 l.length c4) := hk4.cell 0
     have d1 : w4.cell? ⟨g, 1, none⟩ = some (.int .i64 ((p + 1 + 2 : Nat) : Int)) := hk4.cell 1
     have fz1 := hk4.frozen 1
     have HRD4 := Lib.hid hr4
     have HS4 := Lib.hid hs4
     clear hg4 hk4 cm hs4 hr4
     by_cases hmm : 1024 < m
     ·
      have hmi : decide ((1024 : Int) < (m : Int)) = true := by simp; omega
      have hmi2 : (1024 : Int) < (m : Int) := by omega
      have HE4 := Lib.hid (HR4.out.fail 3)
      have d3' : (w4.setCell ⟨g, 3, none⟩ (.int .i64 3)).cell? ⟨g, 3, none⟩ = some (.int .i64 3) := HE4.out.three
      go_wp2_with fail
      go_quiet (fail)
      go_wp2_with fail
      go_meet
      refine ⟨only_drewN (only_setCell HG4.out (.inl rfl) _) _, (HXZ.out.far (by show w.heap.size ≠ g; omega) _).drewN _, by simp [World.setCell]; omega, x, 0, ⟨#[]⟩, 0, rfl, by omega, (HX2.out.far (by show w.heap.size + 1 ≠ g; omega) _).drewN _, .inl ⟨rfl, 3, (by show (3 : Int) ≠ 0; decide), ?_, HE4.out.drewN _⟩⟩
      show _ = _
      rw [← HRX.out]
      have := HC.out
      have := HS4.out
      rw [if_pos (by omega), atomT, numT, if_neg (by omega), HM.out, if_pos hmm]
     ·
      have hmi : decide ((1024 : Int) < (m : Int)) = false := by simp; omega
      have hmi2 : ¬ (1024 : Int) < (m : Int) := by omega
      have hwr : True → IntKind.i64.wrap ((l.length : Int) - ((p + 1 + 2 : Nat) : Int)) = (l.length : Int) - ((p + 1 + 2 : Nat) : Int) := fun _ => by rw [IntKind.wrap_i64]; omega
      have hwr2 : True → IntKind.i64.wrap ((l.length : Int) - ((p : Int) + 1 + 2)) = (l.length : Int) - ((p : Int) + 1 + 2) := fun _ => by rw [IntKind.wrap_i64]; omega
      by_cases hsh : l.length < p + 1 + 2 + m
      ·
       have hd : decide ((l.length : Int) - ((p + 1 + 2 : Nat) : Int) < (m : Int)) = true := by simp; omega
       have hd2 : decide ((l.length : Int) - ((p : Int) + 1 + 2) < (m : Int)) = true := by simp; omega
       have HE4 : Hid (∀ q, RErr ((w4.drewN q).setCell ⟨g, 3, none⟩ (.int .i64 1)) g 1) := fun q => (HR4.out.drewN q).fail 1
       go_wp2_with fail
       go_quiet (fail)
       go_wp2_with fail
       have d3' := (HE4.out nq).three
       go_wp2_with fail
       go_meet
       refine ⟨only_setCell (only_drewN HG4.out _) (.inl rfl) _, (HXZ.out.drewN _).far (by show w.heap.size ≠ g; omega) _, by simp [World.setCell]; omega, x, 0, ⟨#[]⟩, 0, rfl, by omega, (HX2.out.drewN _).far (by show w.heap.size + 1 ≠ g; omega) _, .inl ⟨rfl, 1, (by show (1 : Int) ≠ 0; decide), ?_, HE4.out _⟩⟩
       show _ = _
       rw [← HRX.out]
       have := HC.out
       have := HS4.out
       rw [if_pos (by omega), atomT, numT, if_neg (by omega), HM.out, if_neg hmm]
       simp only [if_pos hsh]
      ·
       have hd : decide ((l.length : Int) - ((p + 1 + 2 : Nat) : Int) < (m : Int)) = false := by simp; omega
       have hd2 : decide ((l.length : Int) - ((p : Int) + 1 + 2) < (m : Int)) = false := by simp; omega
       obtain ⟨bb, oo, rfl, _⟩ := HRD4.out.byte (k := 0) (by omega)
       have z1 : (0 : Int) ≤ (p : Int) + 1 + 2 := by omega
       have z2 : (p : Int) + 1 + 2 ≤ (p : Int) + 1 + 2 + (m : Int) := by omega
       have z3 : (p : Int) + 1 + 2 + (m : Int) ≤ (c4 : Int) := by omega
       have z5 : ((p : Int) + 1 + 2).toNat = p + 1 + 2 := by omega
       have z6 : ((p : Int) + 1 + 2 + (m : Int)).toNat = p + 1 + 2 + m := by omega
       have hrc := (HRD4.out.cutB (k := p + 1 + 2) (cap := c4) (by omega) hc4).frontB (k := m) (by omega)
       obtain ⟨A6, hA6⟩ : ∃ A6, (if c4 = p + 1 + 2 then some (⟨bb, oo, none⟩ : Addr) else some ⟨bb, oo + (p + 1 + 2), none⟩) = A6 := ⟨_, rfl⟩
       obtain ⟨c6, hc6⟩ : ∃ c6, c4 - (p + 1 + 2) = c6 := ⟨_, rfl⟩
       replace hrc : Reads w4 g 1 A6 m (Lib.byteCells ((l.drop (p + 1 + 2)).take m)) := by rw [← hA6]; exact hrc
       have HA6 := Lib.hid hA6
       have HC6 := Lib.hid hc6
       clear hA6 hc6
       have HCV : Hid (∀ W, Below w4.heap.size w4 W → (convert 156 9 (.slice A6 m c6)).run Tryz.prog W = .ok (.string ⟨((l.drop (p + 1 + 2)).take m).toArray⟩) W) := fun W h =>
        reads_str (hrc.below (h.mono (by omega))) _ _ 5 Tryz.underlying156 Tryz.underlying5 Tryz.underlying9
       have HCV2 : Hid (∀ k v, (convert 156 9 (.slice A6 m c6)).run Tryz.prog ((w4.drewN k).setCell ⟨w.heap.size + 1, 2, none⟩ v) = .ok (.string ⟨((l.drop (p + 1 + 2)).take m).toArray⟩) ((w4.drewN k).setCell ⟨w.heap.size + 1, 2, none⟩ v)) := fun k v =>
        reads_str (Reads.setCell (p := ⟨w.heap.size + 1, 2, none⟩) (show Reads (w4.drewN k) g 1 A6 m (Lib.byteCells ((l.drop (p + 1 + 2)).take m)) from hrc) (by show g ≤ w.heap.size + 1; omega) v) _ _ 5 Tryz.underlying156 Tryz.underlying5 Tryz.underlying9
       clear hrc
       have k2 : w4.cell? ⟨w.heap.size + 1, 2, none⟩ = some (.string ⟨#[]⟩) := HX2.out.cell 2
       have kf2 := HX2.out.frozen 2
       have z4 : True → IntKind.i64.wrap ((p : Int) + 1 + 2 + (m : Int)) = (p : Int) + 1 + 2 + (m : Int) := fun _ => by rw [IntKind.wrap_i64]; omega
       go_wp2_with fail
       go_quiet (fail)
       go_wp2_with fail
       refine wp_region_held_drew (S := fun W => W.cell? ⟨g, 0, none⟩ = some (.slice (some ⟨bb, oo, none⟩) l.length c4) ∧ W.cell? ⟨g, 1, none⟩ = some (.int .i64 ((p + 1 + 2 : Nat) : Int)) ∧ (convert 156 9 (.slice A6 m c6)).run Tryz.prog W = .ok (.string ⟨((l.drop (p + 1 + 2)).take m).toArray⟩) W) (by kernel_rfl) ⟨d0, d1, HCV.out _ (below_drewN (below_drewN (Below.refl _ _) nq) 1)⟩ (fun hHeld => ?_)
       refine tkr 0 rfl ?_
       try simp only [nrm, Act.put]
       refine tkr 1 rfl ?_
       try simp only [nrm, Act.put]
       refine tkr 2 rfl ?_
       try simp only [nrm, Act.put]
       refine tkr 3 rfl ?_
       try simp only [nrm, Act.put]
       refine tkr 4 rfl ?_
       try simp only [nrm, Act.put]
       refine tkr 5 rfl ?_
       try simp only [nrm, Act.put]
       refine tkr 6 rfl ?_
       try simp only [nrm, Act.put]
       refine tkr 7 rfl ?_
       try simp only [nrm, Act.put]
       refine tkr 8 rfl ?_
       try simp only [nrm, Act.put]
       refine tkr 9 rfl ?_
       try simp only [nrm, Act.put]
       refine tkr 10 rfl ?_
       try simp only [nrm, Act.put]
       refine tkr 11 rfl ?_
       try simp only [nrm, Act.put]
       refine tkr 12 rfl ?_
       try simp only [nrm, Act.put]
       refine tkr 13 rfl ?_
       try simp only [nrm, Act.put]
       refine wpAnyH_take (i := 14) (v := .slice A6 m c6) rfl (by kernel_rfl) (by kernel_rfl) (by kernel_rfl) (fun _ _ _ h => h) (Or.inl ⟨?_, ?_⟩) (by assumption) ?_
       rfl
       (focus (intro w hSw; (try dsimp only at hSw); go_simp; all_goals (exact ⟨by rw [show p + 2 + 1 = p + 1 + 2 by omega]; exact HA6.out, HC6.out⟩)))
       try simp only [nrm, Act.put]
       refine tkr 15 rfl ?_
       try simp only [nrm, Act.put]
       refine tkr 16 rfl ?_
       try simp only [nrm, Act.put]
       refine rd1 17 rfl fun K hK => ?_
       go_simp
       have K5 : ∀ k v, Blk ((w4.drewN k).setCell ⟨w.heap.size + 1, 2, none⟩ v) g 180 #[.slice (some ⟨bb, oo, none⟩) l.length c4, .int .i64 ((p + 1 + 2 : Nat) : Int), .int .i64 (64 - ((n + 1 : Nat) : Int)), .int .i64 0] := fun k v => (HK4.out.drewN k).far (by show g ≠ w.heap.size + 1; omega) v
       have hk5 := K5 (nq + 1) (.string ⟨((l.drop (p + 1 + 2)).take m).toArray⟩)
       have hx5 : Blk ((w4.drewN (nq + 1)).setCell ⟨w.heap.size + 1, 2, none⟩ (.string ⟨((l.drop (p + 1 + 2)).take m).toArray⟩)) (w.heap.size + 1) 139 #[.int .i64 (x : Int), .int .i64 0, .string ⟨((l.drop (p + 1 + 2)).take m).toArray⟩, .slice none 0 0] := (HX2.out.drewN (nq + 1)).set_ 2 _
       have hx6 := (HXZ.out.drewN (nq + 1)).far (p := ⟨w.heap.size + 1, 2, none⟩) (by show w.heap.size ≠ w.heap.size + 1; omega) (.string ⟨((l.drop (p + 1 + 2)).take m).toArray⟩)
       have hg5 := only_setCell (p := ⟨w.heap.size + 1, 2, none⟩) (only_drewN HG4.out (nq + 1)) (.inr (Nat.le_succ _)) (.string ⟨((l.drop (p + 1 + 2)).take m).toArray⟩)
       have hr5 : Reads ((w4.drewN (nq + 1)).setCell ⟨w.heap.size + 1, 2, none⟩ (.string ⟨((l.drop (p + 1 + 2)).take m).toArray⟩)) g 1 (some ⟨bb, oo, none⟩) l.length (Lib.byteCells l) := Reads.setCell (p := ⟨w.heap.size + 1, 2, none⟩) (show Reads (w4.drewN (nq + 1)) g 1 (some ⟨bb, oo, none⟩) l.length (Lib.byteCells l) from HRD4.out) (by show g ≤ w.heap.size + 1; omega) _
       have hs5 : ((w4.drewN (nq + 1)).setCell ⟨w.heap.size + 1, 2, none⟩ (.string ⟨((l.drop (p + 1 + 2)).take m).toArray⟩)).heap.size = w4.heap.size := by simp [World.setCell]
       refine hK.out _ _ ⟨hk5.cell 0, hk5.cell 1, HCV2.out _ _⟩ (fun hHeld2 => ?_)
       clear hK K hHeld hHeld2
       try simp only [nrm, Act.put]
       refine wpAnyH_done (by kernel_rfl) ?_ _
       generalize (w4.drewN (nq + 1)).setCell ⟨w.heap.size + 1, 2, none⟩ (.string ⟨((l.drop (p + 1 + 2)).take m).toArray⟩) = W5 at hk5 hx5 hx6 hg5 hr5 hs5 ⊢
       have i1 : W5.cell? ⟨g, 1, none⟩ = some (.int .i64 ((p + 1 + 2 : Nat) : Int)) := hk5.cell 1
       have i1f := hk5.frozen 1
       have z7 : True → wrap64 ((p : Int) + 1 + 2 + (m : Int)) = (p : Int) + 1 + 2 + (m : Int) := fun _ => by unfold wrap64; omega
       have HK6 := Lib.hid (hk5.set_ 1 (.int .i64 ((p : Int) + 1 + 2 + (m : Int))))
       have HR6 := Lib.hid (Reads.setCell (p := ⟨g, 1, none⟩) hr5 (Nat.le_refl _) (.int .i64 ((p : Int) + 1 + 2 + (m : Int))))
       have HX5 := Lib.hid hx5
       have HX6 := Lib.hid hx6
       have HG5 := Lib.hid hg5
       have HS5 := Lib.hid hs5
       clear hk5 hx5 hx6 hg5 hr5 hs5 K5
       go_wp2_with fail
       go_meet
       refine ⟨only_setCell HG5.out (.inl rfl) _, HX6.out.far (by show w.heap.size ≠ g; omega) _, by have := HS5.out; simp [World.setCell]; omega, x, 0, ⟨((l.drop (p + 1 + 2)).take m).toArray⟩, 0, rfl, by omega, HX5.out.far (by show w.heap.size + 1 ≠ g; omega) _, .inr ⟨p + 1 + 2 + m, ⟨h1, by omega, by omega, _, c4, hc4, hc5, ?_, HR6.out⟩, fun h => absurd rfl h, ?_⟩⟩
       ·
        simpa using HK6.out
       ·
        show _ = _
        rw [← HRX.out]
        have := HC.out
        have := HS4.out
        rw [if_pos (by omega), atomT, numT, if_neg (by omega), HM.out, if_neg hmm]
        simp only [if_neg hsh]
        rw [decK]
        simp only
        rw [HC.out]
        rfl
   ·
    have y1 : ((x : Int) == 1) = false := by rw [beq_eq_false_iff_ne]; omega
    have y2 : ((x : Int) == 2) = true := by rw [beq_iff_eq]; omega
    have y3 : ((x : Int) == 3) = false := by rw [beq_eq_false_iff_ne]; omega
    have y4 : ((x : Int) == 4) = false := by rw [beq_eq_false_iff_ne]; omega
    have y5 : ((x : Int) == 5) = false := by rw [beq_eq_false_iff_ne]; omega
    have y6 : ((x : Int) == 6) = false := by rw [beq_eq_false_iff_ne]; omega
    have y7 : ((x : Int) == 7) = false := by rw [beq_eq_false_iff_ne]; omega
    have HC := Lib.hid hc
    clear hc
    have cm := Lib.hid (rnum_walk l g (p + 1) (n + 1) 4 W3 HRT.out (by omega))
    clear r3 f3
    go_wp2_with fail
    refine cm.out.mono ?_
    rintro _ w4 ⟨hg4, ⟨hs4, rfl, hre⟩ | ⟨hs4, rfl, hrd4⟩⟩
    ·
     have hx1 := HX1.out.grown hg4 (fun e => by injection e with e; omega)
     have hx0 := HX0.out.grown hg4 (fun e => by injection e with e; omega)
     have hgs := hg4.size
     have r3 := hre.three
     have k1 : w4.cell? ⟨w.heap.size + 1, 1, none⟩ = some (.int .i64 0) := hx1.cell 1
     have kf := hx1.frozen 1
     have hx2 : Blk (w4.setCell ⟨w.heap.size + 1, 1, none⟩ (.int .i64 0)) (w.heap.size + 1) 139 #[.int .i64 (x : Int), .int .i64 0, .string ⟨#[]⟩, .slice none 0 0] := hx1.set_ 1 (.int .i64 0)
     have HX2 := Lib.hid hx2
     have HXZ := Lib.hid (hx0.far (p := ⟨w.heap.size + 1, 1, none⟩) (by show w.heap.size ≠ w.heap.size + 1; omega) (.int .i64 0))
     have HG4 := Lib.hid (only_setCell (p := ⟨w.heap.size + 1, 1, none⟩) (only_trans HG.out hg4) (.inr (Nat.le_succ _)) (.int .i64 0))
     have HE4 := Lib.hid (hre.grown (only_setCell (p := ⟨w.heap.size + 1, 1, none⟩) (only_refl w4 (some (w.heap.size + 1))) (.inl rfl) (.int .i64 0)) (fun q e => by injection e with e; omega))
     have d3 : (w4.setCell ⟨w.heap.size + 1, 1, none⟩ (.int .i64 0)).cell? ⟨g, 3, none⟩ = some (.int .i64 1) := HE4.out.three
     have HS4 := Lib.hid hs4
     clear hx1 hx0 hg4 hre hx2 cm r3 hs4
     go_wp2_with fail
     go_meet
     refine ⟨HG4, HXZ, by simp [World.setCell]; omega, x, 0, ⟨#[]⟩, 0, rfl, by omega, HX2, .inl ⟨rfl, 1, (by show (1 : Int) ≠ 0; decide), ?_, HE4⟩⟩
     show _ = _
     rw [← HRX.out]
     have := HC.out
     rw [if_neg (by omega), if_pos (by omega), numT, if_pos HS4.out]
    ·
     obtain ⟨m, hm⟩ : ∃ m, beN ((l.drop (p + 1)).take 4) = m := ⟨_, rfl⟩
     have hm4 : m < 4294967296 := by rw [← hm]; exact be4 _ (by rw [List.length_take]; omega)
     have HM := Lib.hid hm
     rw [hm]
     clear hm
     have hx1 := HX1.out.grown hg4 (fun e => by injection e with e; omega)
     have hx0 := HX0.out.grown hg4 (fun e => by injection e with e; omega)
     have hgs := hg4.size
     have k1 : w4.cell? ⟨w.heap.size + 1, 1, none⟩ = some (.int .i64 0) := hx1.cell 1
     have kf := hx1.frozen 1
     have hx2 : Blk (w4.setCell ⟨w.heap.size + 1, 1, none⟩ (.int .i64 (m : Int))) (w.heap.size + 1) 139 #[.int .i64 (x : Int), .int .i64 (m : Int), .string ⟨#[]⟩, .slice none 0 0] := hx1.set_ 1 (.int .i64 (m : Int))
     have HX2 := Lib.hid hx2
     have HXZ := Lib.hid (hx0.far (p := ⟨w.heap.size + 1, 1, none⟩) (by show w.heap.size ≠ w.heap.size + 1; omega) (.int .i64 (m : Int)))
     have HG4 := Lib.hid (only_setCell (p := ⟨w.heap.size + 1, 1, none⟩) (only_trans HG.out hg4) (.inr (Nat.le_succ _)) (.int .i64 (m : Int)))
     have HR4 := Lib.hid (hrd4.grown (only_setCell (p := ⟨w.heap.size + 1, 1, none⟩) (only_refl w4 (some (w.heap.size + 1))) (.inl rfl) (.int .i64 (m : Int))) (fun q e => by injection e with e; omega))
     have d1 : (w4.setCell ⟨w.heap.size + 1, 1, none⟩ (.int .i64 (m : Int))).cell? ⟨w.heap.size + 1, 1, none⟩ = some (.int .i64 (m : Int)) := hx2.cell 1
     obtain ⟨d3, f3⟩ := HR4.out.three
     have HS4 := Lib.hid hs4
     clear hx1 hx0 hg4 hrd4 hx2 cm hs4
     by_cases hmm : 1073741824 < m
     ·
      have hmi : decide ((1073741824 : Int) < (m : Int)) = true := by simp; omega
      have hmi2 : (1073741824 : Int) < (m : Int) := by omega
      go_wp2_with fail
      go_meet
      refine ⟨only_setCell HG4.out (.inl rfl) _, HXZ.out.far (by show w.heap.size ≠ g; omega) _, by simp [World.setCell]; omega, x, m, ⟨#[]⟩, 0, rfl, by omega, HX2.out.far (by show w.heap.size + 1 ≠ g; omega) _, .inl ⟨rfl, 3, (by show (3 : Int) ≠ 0; decide), ?_, HR4.out.fail 3⟩⟩
      show _ = _
      rw [← HRX.out]
      have := HC.out
      have := HS4.out
      rw [if_neg (by omega), if_pos (by omega), numT, if_neg (by omega), HM.out, if_pos hmm]
     ·
      have hmi : decide ((1073741824 : Int) < (m : Int)) = false := by simp; omega
      have hmi2 : ¬ (1073741824 : Int) < (m : Int) := by omega
      go_wp2_with fail
      go_meet
      refine ⟨HG4, HXZ, by simp [World.setCell]; omega, x, m, ⟨#[]⟩, 0, rfl, by omega, HX2, .inr ⟨p + 1 + 4, HR4, fun h => absurd rfl h, ?_⟩⟩
      show _ = _
      rw [← HRX.out]
      have := HC.out
      have := HS4.out
      rw [if_neg (by omega), if_pos (by omega), numT, if_neg (by omega), HM.out, if_neg hmm, decK]
      simp only
      rw [HC.out]
      rfl
   ·
    have y1 : ((x : Int) == 1) = false := by rw [beq_eq_false_iff_ne]; omega
    have y2 : ((x : Int) == 2) = false := by rw [beq_eq_false_iff_ne]; omega
    have y3 : ((x : Int) == 3) = true := by rw [beq_iff_eq]; omega
    have y4 : ((x : Int) == 4) = false := by rw [beq_eq_false_iff_ne]; omega
    have y5 : ((x : Int) == 5) = false := by rw [beq_eq_false_iff_ne]; omega
    have y6 : ((x : Int) == 6) = false := by rw [beq_eq_false_iff_ne]; omega
    have y7 : ((x : Int) == 7) = false := by rw [beq_eq_false_iff_ne]; omega
    have HC := Lib.hid hc
    clear hc
    go_wp2_with fail
    go_meet
    refine ⟨HG, HX0, hsz2, x, 0, ⟨#[]⟩, 1, rfl, by omega, HX1, .inr ⟨p + 1, HRT, fun _ => ⟨rfl, rfl⟩, ?_⟩⟩
    show _ = _
    rw [← HRX.out]
    have := HC.out
    rw [if_neg (by omega), if_neg (by omega), if_pos (by omega)]
   ·
    have y1 : ((x : Int) == 1) = false := by rw [beq_eq_false_iff_ne]; omega
    have y2 : ((x : Int) == 2) = false := by rw [beq_eq_false_iff_ne]; omega
    have y3 : ((x : Int) == 3) = false := by rw [beq_eq_false_iff_ne]; omega
    have y4 : ((x : Int) == 4) = true := by rw [beq_iff_eq]; omega
    have y5 : ((x : Int) == 5) = false := by rw [beq_eq_false_iff_ne]; omega
    have y6 : ((x : Int) == 6) = false := by rw [beq_eq_false_iff_ne]; omega
    have y7 : ((x : Int) == 7) = false := by rw [beq_eq_false_iff_ne]; omega
    have HC := Lib.hid hc
    clear hc
    go_wp2_with fail
    go_meet
    refine ⟨HG, HX0, hsz2, x, 0, ⟨#[]⟩, 1, rfl, by omega, HX1, .inr ⟨p + 1, HRT, fun _ => ⟨rfl, rfl⟩, ?_⟩⟩
    show _ = _
    rw [← HRX.out]
    have := HC.out
    rw [if_neg (by omega), if_neg (by omega), if_pos (by omega)]
   ·
    have y1 : ((x : Int) == 1) = false := by rw [beq_eq_false_iff_ne]; omega
    have y2 : ((x : Int) == 2) = false := by rw [beq_eq_false_iff_ne]; omega
    have y3 : ((x : Int) == 3) = false := by rw [beq_eq_false_iff_ne]; omega
    have y4 : ((x : Int) == 4) = false := by rw [beq_eq_false_iff_ne]; omega
    have y5 : ((x : Int) == 5) = true := by rw [beq_iff_eq]; omega
    have y6 : ((x : Int) == 6) = false := by rw [beq_eq_false_iff_ne]; omega
    have y7 : ((x : Int) == 7) = false := by rw [beq_eq_false_iff_ne]; omega
    have HC := Lib.hid hc
    clear hc
    go_wp2_with fail
    go_meet
    refine ⟨HG, HX0, hsz2, x, 0, ⟨#[]⟩, 2, rfl, by omega, HX1, .inr ⟨p + 1, HRT, fun _ => ⟨rfl, rfl⟩, ?_⟩⟩
    show _ = _
    rw [← HRX.out]
    have := HC.out
    rw [if_neg (by omega), if_neg (by omega), if_neg (by omega), if_pos (by omega)]
   ·
    have y1 : ((x : Int) == 1) = false := by rw [beq_eq_false_iff_ne]; omega
    have y2 : ((x : Int) == 2) = false := by rw [beq_eq_false_iff_ne]; omega
    have y3 : ((x : Int) == 3) = false := by rw [beq_eq_false_iff_ne]; omega
    have y4 : ((x : Int) == 4) = false := by rw [beq_eq_false_iff_ne]; omega
    have y5 : ((x : Int) == 5) = false := by rw [beq_eq_false_iff_ne]; omega
    have y6 : ((x : Int) == 6) = true := by rw [beq_iff_eq]; omega
    have y7 : ((x : Int) == 7) = false := by rw [beq_eq_false_iff_ne]; omega
    have HC := Lib.hid hc
    clear hc
    go_wp2_with fail
    go_meet
    refine ⟨HG, HX0, hsz2, x, 0, ⟨#[]⟩, 2, rfl, by omega, HX1, .inr ⟨p + 1, HRT, fun _ => ⟨rfl, rfl⟩, ?_⟩⟩
    show _ = _
    rw [← HRX.out]
    have := HC.out
    rw [if_neg (by omega), if_neg (by omega), if_neg (by omega), if_pos (by omega)]
   ·
    have y1 : ((x : Int) == 1) = false := by rw [beq_eq_false_iff_ne]; omega
    have y2 : ((x : Int) == 2) = false := by rw [beq_eq_false_iff_ne]; omega
    have y3 : ((x : Int) == 3) = false := by rw [beq_eq_false_iff_ne]; omega
    have y4 : ((x : Int) == 4) = false := by rw [beq_eq_false_iff_ne]; omega
    have y5 : ((x : Int) == 5) = false := by rw [beq_eq_false_iff_ne]; omega
    have y6 : ((x : Int) == 6) = false := by rw [beq_eq_false_iff_ne]; omega
    have y7 : ((x : Int) == 7) = true := by rw [beq_iff_eq]; omega
    have HC := Lib.hid hc
    clear hc
    go_wp2_with fail
    go_meet
    refine ⟨HG, HX0, hsz2, x, 0, ⟨#[]⟩, 2, rfl, by omega, HX1, .inr ⟨p + 1, HRT, fun _ => ⟨rfl, rfl⟩, ?_⟩⟩
    show _ = _
    rw [← HRX.out]
    have := HC.out
    rw [if_neg (by omega), if_neg (by omega), if_neg (by omega), if_pos (by omega)]
   ·
    have y1 : ((x : Int) == 1) = false := by rw [beq_eq_false_iff_ne]; omega
    have y2 : ((x : Int) == 2) = false := by rw [beq_eq_false_iff_ne]; omega
    have y3 : ((x : Int) == 3) = false := by rw [beq_eq_false_iff_ne]; omega
    have y4 : ((x : Int) == 4) = false := by rw [beq_eq_false_iff_ne]; omega
    have y5 : ((x : Int) == 5) = false := by rw [beq_eq_false_iff_ne]; omega
    have y6 : ((x : Int) == 6) = false := by rw [beq_eq_false_iff_ne]; omega
    have y7 : ((x : Int) == 7) = false := by rw [beq_eq_false_iff_ne]; omega
    have HC := Lib.hid hc
    clear hc
    go_wp2_with fail
    go_meet
    refine ⟨only_setCell HG.out (.inl rfl) _, HX0.out.far (by show w.heap.size ≠ g; omega) _, by simpa [World.setCell] using hsz2, x, 0, ⟨#[]⟩, 0, rfl, by omega, HX1.out.far (by show w.heap.size + 1 ≠ g; omega) _, .inl ⟨rfl, 2, (by show (2 : Int) ≠ 0; decide), ?_, HRT.out.fail 2⟩⟩
    show _ = _
    rw [← HRX.out]
    have := HC.out
    rw [if_neg (by omega), if_neg (by omega), if_neg (by omega), if_neg (by omega)]
  case rest =>
   obtain ⟨hg, hz, hsz0, kd, nm, s, K, rfl, hK, hx, hst⟩ := hcut
   obtain ⟨i0, hi, hz0', hz1', hz2'⟩ := info_parts4 info_term
   go_wp2_with fail
   go_loopw [8] (fun iv wr => ∃ i : Nat, i ≤ K ∧ iv = .int .i64 i ∧ NodeSt d l g n R w K kd nm s i wr) (fun iv _ => K - (intOf iv).toNat)
   case atStart =>
    refine ⟨0, by omega, rfl, hg, hz, hsz0, none, 0, 0, hx, ?_⟩
    rcases hst with ⟨_, c, h1, h2, h3⟩ | ⟨q, h1, _, h3⟩
    ·
     exact .inl ⟨c, h1, h2, h3⟩
    ·
     exact .inr ⟨q, [], [], q, n + 1, h3, rfl, rfl, (by show decK 0 d l q (n + 1) = _; rw [decK]), h1, World.ownsRow_nil _ _ _ _, (by show KidsSt _ _ _ _ _ _; exact ⟨by rw [TmsV], fun _ => ⟨wc, by rw [TmsV], Nat.le_refl _, fun _ _ _ => rfl, fun gb e => by simp [Value.ownBlock] at e⟩, fun _ => rfl⟩)⟩
   case round =>
    clear hg hz hsz0 hx hst
    obtain ⟨i, hiK, rfl, hg, hz, hsz, A, m, cp, hx, hst⟩ := hrel
    have hxx := hx.out
    have hzz := hz.out
    rcases hst with ⟨c, hc0, hRc, hre⟩ | ⟨q, ts, vs, q', n', hRd, hmi, hlen, hdk, hrd, hown, hks⟩
    ·
     have r3 := hre.out.three
     have hcb : (c == 0) = false := by have := hc0.out; rw [beq_eq_false_iff_ne]; exact this
     by_cases hlt : i < K
     all_goals
      go_wp2_with (first
       | (refine wpList_load_at rfl 139 _ rfl ⟨w.heap.size + 1, 0, none⟩ rfl [.int .i64 kd, .int .i64 nm, .string s, .slice A m cp] _ (blk_cells hxx) Tryz.underlying139 rfl term_size ?_)
       | (refine wpList_store_blk rfl 139 _ _ rfl w.heap.size _ #[.int .i64 kd, .int .i64 nm, .string s, .slice A m cp] _ rfl rfl hzz rfl term_size (ones4 _ _ _ _ _ _) ?_))
      refine bodyPost_ret (results_cell_row Tryz.results137 _ _ w.heap.size _ _ _ _ rfl hzz.setRow Tryz.underlying139 rfl (by kernel_rfl)) rfl ?_
      exact ⟨only_setRow hg.out (Nat.le_refl _) _, kd, nm, s, A, m, cp, rfl, by rw [hRc.out]; exact ⟨hre.out.grown (setRow_only _ w.heap.size _) (fun q e => by injection e with e; omega), hc0.out⟩⟩
    ·
     obtain rfl := hmi.symm
     obtain ⟨r3, f3⟩ := hrd.out.three
     by_cases hlt : i < K
     ·
      have hK2 := hK
      have c53 : wr.drew.cell? ⟨w.heap.size + 1, 3, none⟩ = some (.slice A i cp) := hxx.cell 3
      have hrd5 : RRd wr.drew g l q' n' := hrd.out
      have ct := Lib.hid (hT l g q' n' (deep + 1) wr.drew hdp1 hrd5)
      have hwi : True → IntKind.i64.wrap (deep + 1) = deep + 1 := fun _ => by rw [IntKind.wrap_i64]; omega
      clear hrd5 hK
      go_upto_region 35 with (fail)
      clear r3 f3
      refine wp_region_held_drew (S := fun W => True) (by kernel_rfl) trivial (fun hHeld => ?_)
      refine tkr 0 rfl ?_
      try simp only [nrm, Act.put]
      refine tkr 2 rfl ?_
      try simp only [nrm, Act.put]
      refine tkr 3 rfl ?_
      try simp only [nrm, Act.put]
      refine tkr 4 rfl ?_
      try simp only [nrm, Act.put]
      refine wpAnyH_ready (rs := [1, 5]) (by kernel_rfl) (by simp) ?_
      refine AllReadyH.cons rfl (fun K hK => ?_) (AllReadyH.cons rfl (fun K hK => ?_) AllReadyH.nil)
      ·
       go_simp
       refine hK.out _ _ trivial (fun hHeld => ?_)
       clear hK K
       try simp only [nrm, Act.put]
       refine rd1 5 rfl fun K hK => ?_
       go_simp
       go_at_call 137
       with_reducible refine ct.out.mono ?_
       rintro _ w5 ⟨hg5, kd5, nm5, s5, A5, m5, cp5, rfl, hr5⟩
       have hg5r : wr.grownBy w5 (some g) := ⟨hg5.os, hg5.tape, hg5.output, hg5.size, hg5.block⟩
       have HR5 := Lib.hid hr5
       have hx5 := hx.out.grown hg5r (fun e => by injection e with e; omega)
       have c5 : w5.cell? ⟨w.heap.size + 1, 3, none⟩ = some (.slice A i cp) := hx5.cell 3
       have hs5 := hg5r.size
       have hown5 := own_only hown.out hg5r (by omega)
       refine hK.out _ _ trivial (fun hHeld => ?_)
       clear hK K ct hr5 hg5
       try simp only [nrm, Act.put]
       refine rd1 6 rfl fun K hK => ?_
       go_simp
       have c6 : (w5.alloc (.cells #[.int .i64 kd5, .int .i64 nm5, .string s5, .slice A5 m5 cp5] 139)).cell? ⟨w.heap.size + 1, 3, none⟩ = some (.slice A i cp) := (hx5.alloc _).cell 3
       refine hK.out _ _ trivial (fun hHeld => ?_)
       clear hK K
       try simp only [nrm, Act.put]
       refine rd1 7 rfl fun K hK => ?_
       have hrdn := reads_new w5 139 [.int .i64 kd5, .int .i64 nm5, .string s5, .slice A5 m5 cp5]
       refine step_append_any (w5.alloc (.cells #[.int .i64 kd5, .int .i64 nm5, .string s5, .slice A5 m5 cp5] 139)) rfl (.tmp 162) (.tmp 167) 137 rfl (w.heap.size + 2) 139 i0 _ 4 56 Tryz.underlying137 hi hz0' hz1' hz2' rfl (by decide) (.slice A i cp) i (List.flatten vs) rfl (hown5.alloc _) (w5.heap.size + 1) _ 1 1 [.int .i64 kd5, .int .i64 nm5, .string s5, .slice A5 m5 cp5] rfl hrdn (by simp [Value.oneCell']) (by unfold maxLen; omega) (by omega) (by simp; omega) ?_
       intro v' w6 hown6 hg6 hat6
       obtain ⟨A7, c7', rfl, _, _⟩ := own_reads hown6 (Nat.le_refl _)
       have hx6 : Blk w6 (w.heap.size + 1) 139 #[.int .i64 kd, .int .i64 nm, .string s, .slice A i cp] := (hx5.alloc (.cells #[.int .i64 kd5, .int .i64 nm5, .string s5, .slice A5 m5 cp5] 139)).grown hg6 (fun e => by have := (hown5.lt _ e.symm).1; omega)
       have c7 : w6.cell? ⟨w.heap.size + 1, 3, none⟩ = some (.slice A i cp) := hx6.cell 3
       have f7 := hx6.frozen 3
       refine hK.out _ _ trivial (fun hHeld => ?_)
       clear hK K
       try simp only [nrm, Act.put]
       refine tkr 8 rfl ?_
       try simp only [nrm, Act.put]
       refine rd1 9 rfl fun K hK => ?_
       have FIN := Lib.hid (node_fin hg.out hz.out hsz hx.out hgl hrd.out hown.out hks.out hdk.out hRd.out hlen hlt hK2 hg5r HR5.out hown6 hg6 hat6)
       clear hrdn hown6 hg6 hat6 hown5 HR5
       go_simp
       refine hK.out _ _ trivial (fun hHeld => ?_)
       clear hK K
       try simp only [nrm, Act.put]
       refine wpAnyH_done (by kernel_rfl) ?_ _
       go_wp2_with fail
       exact ⟨⟨i + 1, by omega, by go_num, FIN.out⟩, by simp [intOf]; omega⟩
      ·
       go_simp
       go_at_call 137
       with_reducible refine ct.out.mono ?_
       rintro _ w5 ⟨hg5, kd5, nm5, s5, A5, m5, cp5, rfl, hr5⟩
       have hg5r : wr.grownBy w5 (some g) := ⟨hg5.os, hg5.tape, hg5.output, hg5.size, hg5.block⟩
       have HR5 := Lib.hid hr5
       have hx5 := hx.out.grown hg5r (fun e => by injection e with e; omega)
       have c5 : w5.cell? ⟨w.heap.size + 1, 3, none⟩ = some (.slice A i cp) := hx5.cell 3
       have hs5 := hg5r.size
       have hown5 := own_only hown.out hg5r (by omega)
       refine hK.out _ _ trivial (fun hHeld => ?_)
       clear hK K ct hr5 hg5
       try simp only [nrm, Act.put]
       refine wpAnyH_ready (rs := [1, 6]) (by kernel_rfl) (by simp) ?_
       refine AllReadyH.cons rfl (fun K hK => ?_) (AllReadyH.cons rfl (fun K hK => ?_) AllReadyH.nil)
       ·
        go_simp
        refine hK.out _ _ trivial (fun hHeld => ?_)
        clear hK K
        try simp only [nrm, Act.put]
        refine rd1 6 rfl fun K hK => ?_
        go_simp
        have c6 : (w5.alloc (.cells #[.int .i64 kd5, .int .i64 nm5, .string s5, .slice A5 m5 cp5] 139)).cell? ⟨w.heap.size + 1, 3, none⟩ = some (.slice A i cp) := (hx5.alloc _).cell 3
        refine hK.out _ _ trivial (fun hHeld => ?_)
        clear hK K
        try simp only [nrm, Act.put]
        refine rd1 7 rfl fun K hK => ?_
        have hrdn := reads_new w5 139 [.int .i64 kd5, .int .i64 nm5, .string s5, .slice A5 m5 cp5]
        refine step_append_any (w5.alloc (.cells #[.int .i64 kd5, .int .i64 nm5, .string s5, .slice A5 m5 cp5] 139)) rfl (.tmp 162) (.tmp 167) 137 rfl (w.heap.size + 2) 139 i0 _ 4 56 Tryz.underlying137 hi hz0' hz1' hz2' rfl (by decide) (.slice A i cp) i (List.flatten vs) rfl (hown5.alloc _) (w5.heap.size + 1) _ 1 1 [.int .i64 kd5, .int .i64 nm5, .string s5, .slice A5 m5 cp5] rfl hrdn (by simp [Value.oneCell']) (by unfold maxLen; omega) (by omega) (by simp; omega) ?_
        intro v' w6 hown6 hg6 hat6
        obtain ⟨A7, c7', rfl, _, _⟩ := own_reads hown6 (Nat.le_refl _)
        have hx6 : Blk w6 (w.heap.size + 1) 139 #[.int .i64 kd, .int .i64 nm, .string s, .slice A i cp] := (hx5.alloc (.cells #[.int .i64 kd5, .int .i64 nm5, .string s5, .slice A5 m5 cp5] 139)).grown hg6 (fun e => by have := (hown5.lt _ e.symm).1; omega)
        have c7 : w6.cell? ⟨w.heap.size + 1, 3, none⟩ = some (.slice A i cp) := hx6.cell 3
        have f7 := hx6.frozen 3
        refine hK.out _ _ trivial (fun hHeld => ?_)
        clear hK K
        try simp only [nrm, Act.put]
        refine tkr 8 rfl ?_
        try simp only [nrm, Act.put]
        refine rd1 9 rfl fun K hK => ?_
        have FIN := Lib.hid (node_fin hg.out hz.out hsz hx.out hgl hrd.out hown.out hks.out hdk.out hRd.out hlen hlt hK2 hg5r HR5.out hown6 hg6 hat6)
        clear hrdn hown6 hg6 hat6 hown5 HR5
        go_simp
        refine hK.out _ _ trivial (fun hHeld => ?_)
        clear hK K
        try simp only [nrm, Act.put]
        refine wpAnyH_done (by kernel_rfl) ?_ _
        go_wp2_with fail
        exact ⟨⟨i + 1, by omega, by go_num, FIN.out⟩, by simp [intOf]; omega⟩
       ·
        go_simp
        have c6 : (w5.alloc (.cells #[.int .i64 kd5, .int .i64 nm5, .string s5, .slice A5 m5 cp5] 139)).cell? ⟨w.heap.size + 1, 3, none⟩ = some (.slice A i cp) := (hx5.alloc _).cell 3
        refine hK.out _ _ trivial (fun hHeld => ?_)
        clear hK K
        try simp only [nrm, Act.put]
        refine rd1 1 rfl fun K hK => ?_
        go_simp
        refine hK.out _ _ trivial (fun hHeld => ?_)
        clear hK K
        try simp only [nrm, Act.put]
        refine rd1 7 rfl fun K hK => ?_
        have hrdn := reads_new w5 139 [.int .i64 kd5, .int .i64 nm5, .string s5, .slice A5 m5 cp5]
        refine step_append_any (w5.alloc (.cells #[.int .i64 kd5, .int .i64 nm5, .string s5, .slice A5 m5 cp5] 139)) rfl (.tmp 162) (.tmp 167) 137 rfl (w.heap.size + 2) 139 i0 _ 4 56 Tryz.underlying137 hi hz0' hz1' hz2' rfl (by decide) (.slice A i cp) i (List.flatten vs) rfl (hown5.alloc _) (w5.heap.size + 1) _ 1 1 [.int .i64 kd5, .int .i64 nm5, .string s5, .slice A5 m5 cp5] rfl hrdn (by simp [Value.oneCell']) (by unfold maxLen; omega) (by omega) (by simp; omega) ?_
        intro v' w6 hown6 hg6 hat6
        obtain ⟨A7, c7', rfl, _, _⟩ := own_reads hown6 (Nat.le_refl _)
        have hx6 : Blk w6 (w.heap.size + 1) 139 #[.int .i64 kd, .int .i64 nm, .string s, .slice A i cp] := (hx5.alloc (.cells #[.int .i64 kd5, .int .i64 nm5, .string s5, .slice A5 m5 cp5] 139)).grown hg6 (fun e => by have := (hown5.lt _ e.symm).1; omega)
        have c7 : w6.cell? ⟨w.heap.size + 1, 3, none⟩ = some (.slice A i cp) := hx6.cell 3
        have f7 := hx6.frozen 3
        refine hK.out _ _ trivial (fun hHeld => ?_)
        clear hK K
        try simp only [nrm, Act.put]
        refine tkr 8 rfl ?_
        try simp only [nrm, Act.put]
        refine rd1 9 rfl fun K hK => ?_
        have FIN := Lib.hid (node_fin hg.out hz.out hsz hx.out hgl hrd.out hown.out hks.out hdk.out hRd.out hlen hlt hK2 hg5r HR5.out hown6 hg6 hat6)
        clear hrdn hown6 hg6 hat6 hown5 HR5
        go_simp
        refine hK.out _ _ trivial (fun hHeld => ?_)
        clear hK K
        try simp only [nrm, Act.put]
        refine wpAnyH_done (by kernel_rfl) ?_ _
        go_wp2_with fail
        exact ⟨⟨i + 1, by omega, by go_num, FIN.out⟩, by simp [intOf]; omega⟩
     ·
      obtain rfl : i = K := by omega
      go_wp2_with (first
       | (refine wpList_load_at rfl 139 _ rfl ⟨w.heap.size + 1, 0, none⟩ rfl [.int .i64 kd, .int .i64 nm, .string s, .slice A i cp] _ (blk_cells hxx) Tryz.underlying139 rfl term_size ?_)
       | (refine wpList_store_blk rfl 139 _ _ rfl w.heap.size _ #[.int .i64 kd, .int .i64 nm, .string s, .slice A i cp] _ rfl rfl hzz rfl term_size (ones4 _ _ _ _ _ _) ?_))
      refine bodyPost_ret (results_cell_row Tryz.results137 _ _ w.heap.size _ _ _ _ rfl hzz.setRow Tryz.underlying139 rfl (by kernel_rfl)) rfl ?_
      have hRd' := hRd.out
      rw [hdk.out] at hRd'
      refine ⟨only_setRow hg.out (Nat.le_refl _) _, kd, nm, s, A, i, cp, rfl, ?_⟩
      rw [hRd']
      refine ⟨?_, hrd.out.grown (setRow_only _ w.heap.size _) (fun q e => by injection e with e; omega)⟩
      obtain ⟨A', cp', e', hcp', hrr⟩ := own_reads hown.out (Nat.le_refl _)
      injection e' with e1 _ e3
      subst e1 e3
      have hcap := own_cap hown.out
      have hlo := hown.out.lt
      refine (TmV.low (lo := w.heap.size + 2) ?_ (by omega))
      refine TmV.grown (w := wr) (row := some w.heap.size) ?_ (setRow_only _ w.heap.size _) (fun q e => by injection e with e; omega)
      rw [TmV]
      refine ⟨A, cp, vs, by rw [hlen]; rfl, by omega, hcap, by rw [hlen]; exact hrr, fun h0 ad e => ?_, hks.out.1⟩
      subst e
      exact (hown.out.lt ad.block (by obtain ⟨gb, ccap, hv, _, _⟩ := hown.out.form (by omega); injection hv with hv; injection hv with hv; subst hv; rfl)).1
end
section
open Go.RowKit
theorem node_all : ∀ d : Nat, d ≤ 17 → RTermOk d
 | 0, _ => by
  intro l g p n deep w hdp h
  rw [decT]
  exact node_big l g p n deep w h (.inr (by omega)) (by omega) (by omega)
 | d + 1, hd => node_succ d (by omega) (node_all d (by omega))
theorem rtake_walk (l : List UInt8) (A : Option Addr) (c : Nat) (w : World) (hl : l.length ≤ 1000000) (hc : l.length ≤ c) (hc2 : c ≤ 9223372036854775807) (hr : Reads w w.heap.size 1 A l.length (Lib.byteCells l)) :
  Calls Tryz.prog 135 #[.slice A l.length c] w (TakeR l (takeT l) w) := by
 have hb1 := (Below.refl w.heap.size w).alloc (Nat.le_refl _) (.cells #[.int .i64 0, .int .i64 0, .string ⟨#[]⟩, .slice none 0 0] 139)
 have hb2 := hb1.alloc hb1.size (.cells #[.slice A l.length c, .int .i64 0, .int .i64 64, .int .i64 0] 180)
 have hsz : (w.alloc (.cells #[.int .i64 0, .int .i64 0, .string ⟨#[]⟩, .slice none 0 0] 139)).heap.size = w.heap.size + 1 := by simp
 have hrd : RRd ((w.alloc (.cells #[.int .i64 0, .int .i64 0, .string ⟨#[]⟩, .slice none 0 0] 139)).alloc (.cells #[.slice A l.length c, .int .i64 0, .int .i64 64, .int .i64 0] 180)) (w.heap.size + 1) l 0 0 := by
  refine ⟨hl, Nat.zero_le _, by omega, A, c, hc, hc2, ?_, (hr.below hb2).more (Nat.le_succ _)⟩
  have := Blk.new (w.alloc (.cells #[.int .i64 0, .int .i64 0, .string ⟨#[]⟩, .slice none 0 0] 139)) 180 #[.slice A l.length c, .int .i64 0, .int .i64 64, .int .i64 0]
  rw [hsz] at this
  exact this
 have hbr : Blk ((w.alloc (.cells #[.int .i64 0, .int .i64 0, .string ⟨#[]⟩, .slice none 0 0] 139)).alloc (.cells #[.slice A l.length c, .int .i64 0, .int .i64 64, .int .i64 0] 180)) w.heap.size 139 #[.int .i64 0, .int .i64 0, .string ⟨#[]⟩, .slice none 0 0] := (Blk.new w 139 #[.int .i64 0, .int .i64 0, .string ⟨#[]⟩, .slice none 0 0]).alloc _
 have ct := Lib.hid (node_all 16 (by omega) l (w.heap.size + 1) 0 0 1 _ (by omega) hrd)
 have HB2 := Lib.hid hb2
 have HBR := Lib.hid hbr
 have hs2 : ((w.alloc (.cells #[.int .i64 0, .int .i64 0, .string ⟨#[]⟩, .slice none 0 0] 139)).alloc (.cells #[.slice A l.length c, .int .i64 0, .int .i64 64, .int .i64 0] 180)).heap.size = w.heap.size + 2 := by simp
 have HS2 := Lib.hid hs2
 cases hD : decT 16 l 0 0 with
 | error k =>
  have hv : Hid (takeT l = .error k) := by show _ = _; rw [takeT, hD]
  have hk := decT_err _ _ _ _ _ hD
  have k1 : (k != 0) = true := by rw [bne_iff_ne]; omega
  rw [hD] at ct
  clear hD hrd hb1 hb2 hr hbr hsz hs2 hk
  go_enter Tryz.func135, Tryz.ntmps135
  go_wp2_with fail
  refine ct.out.mono ?_
  rintro _ w1 ⟨hg1, kd, nm, s, A1, m, cp, rfl, ⟨v9, a9, b9, hre⟩, _⟩
  have hbq := (HBR.out.grown hg1 (fun e => by injection e with e; omega)).alloc (.cells #[.int .i64 kd, .int .i64 nm, .string s, .slice A1 m cp] 139)
  have hbw := only_below HB2.out hg1 (by omega)
  have HBW := Lib.hid (hbw.alloc hbw.size (.cells #[.int .i64 kd, .int .i64 nm, .string s, .slice A1 m cp] 139))
  have hk2 := hre.alloc (.cells #[.int .i64 kd, .int .i64 nm, .string s, .slice A1 m cp] 139)
  have hcq : (w1.alloc (.cells #[.int .i64 kd, .int .i64 nm, .string s, .slice A1 m cp] 139)).cell? ⟨w.heap.size + 1, 3, none⟩ = some (.int .i64 k) := hk2.cell 3
  have hgl1 : w.heap.size + 1 < w1.heap.size := hre.lt
  have hcq1 : w1.cell? ⟨w.heap.size + 1, 3, none⟩ = some (.int .i64 k) := hre.cell 3
  clear hg1 ct hbw
  go_wp2_with (refine wpList_store_fresh w1 rfl 139 _ _ rfl _ #[.int .i64 kd, .int .i64 nm, .string s, .slice A1 m cp] _ rfl rfl rfl term_size (ones4 _ _ _ _ _ _) ?_)
  refine wp_region_held_drew (S := fun X => X.cell? ⟨w.heap.size + 1, 3, none⟩ = some (.int .i64 k)) (by kernel_rfl) hcq (fun hHeld => ?_)
  refine tkr 0 rfl ?_
  try simp only [nrm, Act.put]
  refine tkr 1 rfl ?_
  try simp only [nrm, Act.put]
  refine tkr 2 rfl ?_
  try simp only [nrm, Act.put]
  refine tkr 3 rfl ?_
  try simp only [nrm, Act.put]
  refine tkr 4 rfl ?_
  try simp only [nrm, Act.put]
  refine rd1 5 rfl fun K hK => ?_
  rw [if_pos (by rfl)]
  have hbq9 := hbq.drew
  refine wp_store_blk 139 _ _ rfl w.heap.size _ #[.int .i64 0, .int .i64 0, .string ⟨#[]⟩, .slice none 0 0] _ rfl rfl hbq9 rfl term_size (ones4 _ _ _ _ _ _) ?_
  have hne2 : w.heap.size + 1 ≠ w.heap.size := by omega
  refine hK.out _ _ ((hk2.drew.setOther hne2 (#[.int .i64 0, .int .i64 0, .string ⟨#[]⟩, .slice none 0 0])).cell 3) (fun hHeld2 => ?_)
  clear hK K
  try simp only [nrm, Act.put]
  refine tkr 6 rfl ?_
  try simp only [nrm, Act.put]
  refine tkr 7 rfl ?_
  try simp only [nrm, Act.put]
  refine wpAnyH_done (by kernel_rfl) ?_ _
  go_wp2_with fail
  refine bodyPost_ret (results_c_tt Tryz.results135 _ _ w.heap.size _ _ _ _ rfl hbq9.setRow) rfl ?_
  rw [hv.out]
  exact ⟨rfl, below_setRow (below_drewN HBW.out 1) (Nat.le_refl _) _⟩
 | ok r =>
  obtain ⟨t, q, n'⟩ := r
  have hv : Hid (takeT l = .ok (t, q)) := by show _ = _; rw [takeT, hD]
  rw [hD] at ct
  clear hD hrd hb1 hb2 hr hbr hsz hs2
  go_enter Tryz.func135, Tryz.ntmps135
  go_wp2_with fail
  refine ct.out.mono ?_
  rintro _ w1 ⟨hg1, kd, nm, s, A1, m, cp, rfl, htv, hr1⟩
  have hbq := (HBR.out.grown hg1 (fun e => by injection e with e; omega)).alloc (.cells #[.int .i64 kd, .int .i64 nm, .string s, .slice A1 m cp] 139)
  have hbt := Blk.new w1 139 #[.int .i64 kd, .int .i64 nm, .string s, .slice A1 m cp]
  have hbw := only_below HB2.out hg1 (by omega)
  have HBW := Lib.hid (hbw.alloc hbw.size (.cells #[.int .i64 kd, .int .i64 nm, .string s, .slice A1 m cp] 139))
  have hql := Lib.hid hr1.2.1
  obtain ⟨_, _, _, A2, c2, _, _, hre, _⟩ := hr1
  have hk2 := hre.alloc (.cells #[.int .i64 kd, .int .i64 nm, .string s, .slice A1 m cp] 139)
  have hcq : (w1.alloc (.cells #[.int .i64 kd, .int .i64 nm, .string s, .slice A1 m cp] 139)).cell? ⟨w.heap.size + 1, 1, none⟩ = some (.int .i64 (q : Int)) := hk2.cell 1
  have hcq3 : (w1.alloc (.cells #[.int .i64 kd, .int .i64 nm, .string s, .slice A1 m cp] 139)).cell? ⟨w.heap.size + 1, 3, none⟩ = some (.int .i64 0) := hk2.cell 3
  have htw := htv.grown (only_alloc (only_refl w1 none) (.cells #[.int .i64 kd, .int .i64 nm, .string s, .slice A1 m cp] 139)) (fun q e => by cases e)
  rw [HS2.out] at htw
  have HTW := Lib.hid htw
  have hgl1 : w.heap.size + 1 < w1.heap.size := hre.lt
  have hcq1 : w1.cell? ⟨w.heap.size + 1, 1, none⟩ = some (.int .i64 (q : Int)) := hre.cell 1
  have hcq13 : w1.cell? ⟨w.heap.size + 1, 3, none⟩ = some (.int .i64 0) := hre.cell 3
  clear hg1 ct hbw htv htw
  go_wp2_with (refine wpList_store_fresh w1 rfl 139 _ _ rfl _ #[.int .i64 kd, .int .i64 nm, .string s, .slice A1 m cp] _ rfl rfl rfl term_size (ones4 _ _ _ _ _ _) ?_)
  refine wp_region_held_drew (S := fun X => Blk X w1.heap.size 139 #[.int .i64 kd, .int .i64 nm, .string s, .slice A1 m cp] ∧ X.cell? ⟨w.heap.size + 1, 1, none⟩ = some (.int .i64 (q : Int))) (by kernel_rfl) ⟨hbt.drew, hcq⟩ (fun hHeld => ?_)
  refine tk 0 rfl (v := _) (yieldsIf_load_term (by rfl) _ rfl ⟨w1.heap.size, 0, none⟩ rfl _ _ _ _ (fun w h => blk_cells h.1)) ?_
  try simp only [nrm, Act.put]
  refine tkr 1 rfl ?_
  try simp only [nrm, Act.put]
  refine tkr 2 rfl ?_
  try simp only [nrm, Act.put]
  refine tkr 3 rfl ?_
  try simp only [nrm, Act.put]
  refine tkr 4 rfl ?_
  try simp only [nrm, Act.put]
  refine rd1 5 rfl fun K hK => ?_
  rw [if_pos (by rfl)]
  have hbq9 := hbq.drew
  refine wp_store_blk 139 _ _ rfl w.heap.size _ #[.int .i64 kd, .int .i64 nm, .string s, .slice A1 m cp] _ rfl rfl hbq9 rfl term_size (ones4 _ _ _ _ _ _) ?_
  have hne : w1.heap.size ≠ w.heap.size := by omega
  have hne2 : w.heap.size + 1 ≠ w.heap.size := by omega
  refine hK.out _ _ ⟨hHeld.1.setOther hne _, (hk2.drew.setOther hne2 (#[.int .i64 kd, .int .i64 nm, .string s, .slice A1 m cp])).cell 1⟩ (fun hHeld2 => ?_)
  clear hK K
  try simp only [nrm, Act.put]
  refine tkr 6 rfl ?_
  try simp only [nrm, Act.put]
  refine tkr 7 rfl ?_
  try simp only [nrm, Act.put]
  refine wpAnyH_done (by kernel_rfl) ?_ _
  go_wp2_with fail
  refine bodyPost_ret (results_c_tt Tryz.results135 _ _ w.heap.size _ _ _ _ rfl hbq9.setRow) rfl ?_
  rw [hv.out]
  exact ⟨kd, nm, s, A1, m, cp, rfl, ((HTW.out.below (below_drewN (Below.refl _ _) 1)).grown (setRow_only _ w.heap.size _) (fun q e => by injection e with e; omega)).low (Nat.le_add_right _ 2), hql.out, below_setRow (below_drewN HBW.out 1) (Nat.le_refl _) _⟩
theorem rone_walk (l : List UInt8) (A : Option Addr) (c : Nat) (w : World) (hl : l.length ≤ 1000000) (hc : l.length ≤ c) (hc2 : c ≤ 9223372036854775807) (hr : Reads w w.heap.size 1 A l.length (Lib.byteCells l)) :
  Calls Tryz.prog 131 #[.slice A l.length c] w (OneR (oneT l) w) := by
 have hb1 := (Below.refl w.heap.size w).alloc (Nat.le_refl _) (.cells #[.int .i64 0, .int .i64 0, .string ⟨#[]⟩, .slice none 0 0] 139)
 have hbr := Blk.new w 139 #[.int .i64 0, .int .i64 0, .string ⟨#[]⟩, .slice none 0 0]
 have ct := Lib.hid (rtake_walk l A c _ hl hc hc2 ((hr.below hb1).more hb1.size))
 have HB1 := Lib.hid hb1
 have HBR := Lib.hid hbr
 cases hD : takeT l with
 | error k =>
  have hk := takeT_err hD
  have hv : Hid (oneT l = .error k) := by show _ = _; rw [oneT, hD]
  rw [hD] at ct
  have k0 : (k == 0) = false := by rw [beq_eq_false_iff_ne]; omega
  have k1 : (k != 0) = true := by rw [bne, k0]; rfl
  clear hD hb1 hbr hr hk
  go_enter Tryz.func131, Tryz.ntmps131
  go_wp2_with fail
  refine ct.out.mono ?_
  rintro _ w1 ⟨rfl, hbn⟩
  have hbq := (HBR.out.below hbn (by simp)).alloc (.cells #[.int .i64 0, .int .i64 0, .string ⟨#[]⟩, .slice none 0 0] 139)
  have hbw := below_next HB1.out hbn
  have HBW := Lib.hid (hbw.alloc hbw.size (.cells #[.int .i64 0, .int .i64 0, .string ⟨#[]⟩, .slice none 0 0] 139))
  clear hbn ct hbw
  go_wp2_with (first
   | (refine wpList_store_fresh w1 rfl 139 _ _ rfl _ #[.int .i64 0, .int .i64 0, .string ⟨#[]⟩, .slice none 0 0] _ rfl rfl rfl term_size (ones4 _ _ _ _ _ _) ?_)
   | (refine wpList_store_blk rfl 139 _ _ rfl w.heap.size _ #[.int .i64 0, .int .i64 0, .string ⟨#[]⟩, .slice none 0 0] _ rfl rfl hbq rfl term_size (ones4 _ _ _ _ _ _) ?_))
  refine bodyPost_ret (results_c_t Tryz.results131 _ _ w.heap.size _ _ _ _ rfl hbq.setRow) rfl ?_
  rw [hv.out]
  exact ⟨rfl, below_setRow HBW.out (Nat.le_refl _) _⟩
 | ok r =>
  obtain ⟨t, q⟩ := r
  rw [hD] at ct
  have HD := Lib.hid hD
  clear hD hb1 hbr hr
  by_cases hq : q < l.length
  ·
   have hv : Hid (oneT l = .error 5) := by show _ = _; rw [oneT, HD.out]; simp only [if_pos hq]
   go_enter Tryz.func131, Tryz.ntmps131
   go_wp2_with fail
   refine ct.out.mono ?_
   rintro _ w1 ⟨kd, nm, s, A1, m, cp, rfl, htv, hql, hbn⟩
   have hbq := (HBR.out.below hbn (by simp)).alloc (.cells #[.int .i64 kd, .int .i64 nm, .string s, .slice A1 m cp] 139)
   have hbw := below_next HB1.out hbn
   have HBW := Lib.hid (hbw.alloc hbw.size (.cells #[.int .i64 kd, .int .i64 nm, .string s, .slice A1 m cp] 139))
   clear hbn ct hbw htv
   go_wp2_with (first
    | (refine wpList_store_fresh w1 rfl 139 _ _ rfl _ #[.int .i64 kd, .int .i64 nm, .string s, .slice A1 m cp] _ rfl rfl rfl term_size (ones4 _ _ _ _ _ _) ?_)
    | (refine wpList_store_blk rfl 139 _ _ rfl w.heap.size _ #[.int .i64 0, .int .i64 0, .string ⟨#[]⟩, .slice none 0 0] _ rfl rfl hbq rfl term_size (ones4 _ _ _ _ _ _) ?_))
   refine bodyPost_ret (results_c_t Tryz.results131 _ _ w.heap.size _ _ _ _ rfl hbq.setRow) rfl ?_
   rw [hv.out]
   exact ⟨rfl, below_setRow HBW.out (Nat.le_refl _) _⟩
  ·
   have hv : Hid (oneT l = .ok t) := by show _ = _; rw [oneT, HD.out]; simp only [if_neg hq]
   go_enter Tryz.func131, Tryz.ntmps131
   go_wp2_with fail
   refine ct.out.mono ?_
   rintro _ w1 ⟨kd, nm, s, A1, m, cp, rfl, htv, hql, hbn⟩
   have hbq := (HBR.out.below hbn (by simp)).alloc (.cells #[.int .i64 kd, .int .i64 nm, .string s, .slice A1 m cp] 139)
   have hbt := Blk.new w1 139 #[.int .i64 kd, .int .i64 nm, .string s, .slice A1 m cp]
   have hbw := below_next HB1.out hbn
   have HBW := Lib.hid (hbw.alloc hbw.size (.cells #[.int .i64 kd, .int .i64 nm, .string s, .slice A1 m cp] 139))
   have hz1 : (w.alloc (.cells #[.int .i64 0, .int .i64 0, .string ⟨#[]⟩, .slice none 0 0] 139)).heap.size = w.heap.size + 1 := by simp
   rw [hz1] at htv
   have HTW := Lib.hid (htv.grown (only_alloc (only_refl w1 none) (.cells #[.int .i64 kd, .int .i64 nm, .string s, .slice A1 m cp] 139)) (fun q e => by cases e))
   clear hbn ct hbw htv
   go_wp2_with (first
    | (refine wpList_store_fresh w1 rfl 139 _ _ rfl _ #[.int .i64 kd, .int .i64 nm, .string s, .slice A1 m cp] _ rfl rfl rfl term_size (ones4 _ _ _ _ _ _) ?_)
    | (refine wpList_load_at rfl 139 _ rfl ⟨w1.heap.size, 0, none⟩ rfl [.int .i64 kd, .int .i64 nm, .string s, .slice A1 m cp] _ (blk_cells hbt) Tryz.underlying139 rfl term_size ?_)
    | (refine wpList_store_blk rfl 139 _ _ rfl w.heap.size _ #[.int .i64 kd, .int .i64 nm, .string s, .slice A1 m cp] _ rfl rfl hbq rfl term_size (ones4 _ _ _ _ _ _) ?_))
   refine bodyPost_ret (results_c_t Tryz.results131 _ _ w.heap.size _ _ _ _ rfl hbq.setRow) rfl ?_
   rw [hv.out]
   exact ⟨kd, nm, s, A1, m, cp, rfl, (HTW.out.grown (setRow_only _ w.heap.size _) (fun q e => by injection e with e; omega)).low (Nat.le_succ _), below_setRow HBW.out (Nat.le_refl _) _⟩
end
section
theorem oneT_err {l : List UInt8} {c : Int} (h : oneT l = .error c) : 1 ≤ c ∧ c ≤ 5 := by
 rw [oneT] at h
 cases hT : takeT l with
 | error c' => rw [hT] at h; injection h with h; have := takeT_err hT; omega
 | ok r =>
  obtain ⟨u, q⟩ := r
  rw [hT] at h
  simp only at h
  split at h
  ·
   injection h with h; omega
  ·
   cases h
end
namespace B64
def vol (l : List UInt8) : Nat := (l.getD 0 0).toNat * 65536 + (l.getD 1 0).toNat * 256 + (l.getD 2 0).toNat
def sxt (l : List UInt8) (k : Nat) : Nat := vol l / 64 ^ (3 - k) % 64
theorem byte_lt (l : List UInt8) (k : Nat) : (l.getD k 0).toNat < 256 := by have := (l.getD k 0).toNat_lt; omega
theorem sxt_lt (l : List UInt8) (k : Nat) : sxt l k < 64 := Nat.mod_lt _ (by decide)
def signs : List UInt8 := [65, 66, 67, 68, 69, 70, 71, 72, 73, 74, 75, 76, 77, 78, 79, 80, 81, 82, 83, 84, 85, 86, 87, 88, 89, 90, 97, 98, 99, 100, 101, 102, 103, 104, 105, 106, 107, 108, 109, 110, 111, 112, 113, 114, 115, 116, 117, 118, 119, 120, 121, 122, 48, 49, 50, 51, 52, 53, 54, 55, 56, 57, 45, 95]
def sgn (k : Nat) : UInt8 := signs.getD k 0
def chunk (l : List UInt8) : List UInt8 := (List.range (l.length + 1)).map fun k => sgn (sxt l k)
def enc : List UInt8 → List UInt8
 | [] => []
 | [a] => chunk [a]
 | [a, b] => chunk [a, b]
 | a :: b :: c :: r => chunk [a, b, c] ++ enc r
theorem chunk_length (l : List UInt8) : (chunk l).length = l.length + 1 := by simp [chunk]
theorem enc_le : ∀ l : List UInt8, (enc l).length ≤ 2 * l.length
 | [] => by simp [enc]
 | [a] => by simp [enc, chunk]
 | [a, b] => by simp [enc, chunk]
 | a :: b :: c :: r => by have := enc_le r; simp [enc, chunk]; omega
theorem enc_append : ∀ (a b : List UInt8), a.length % 3 = 0 → enc (a ++ b) = enc a ++ enc b
 | [], b, _ => rfl
 | [_], _, h => by simp at h
 | [_, _], _, h => by simp at h
 | x :: y :: z :: r, b, h => by
  have ih := enc_append r b (by simp at h; omega)
  simp [enc, ih]
theorem enc_small (l : List UInt8) (h0 : l ≠ []) (h3 : l.length ≤ 3) : enc l = chunk l := by
 match l, h0, h3 with
 | [a], _, _ => rfl
 | [a, b], _, _ => rfl
 | [a, b, c], _, _ => simp [enc]
 | a :: b :: c :: d :: r, _, h => simp at h
def encTo (l : List UInt8) (k j : Nat) : List UInt8 := enc (l.take k) ++ (List.range j).map fun i => sgn (sxt ((l.drop k).take 3) i)
theorem encTo_zero (l : List UInt8) (k : Nat) : encTo l k 0 = enc (l.take k) := by simp [encTo]
theorem encTo_le (l : List UInt8) (k j : Nat) : (encTo l k j).length ≤ 2 * l.length + j := by
 have := enc_le (l.take k)
 simp only [encTo, List.length_append, List.length_map, List.length_range]
 have : (l.take k).length ≤ l.length := List.length_take_le' _ _
 omega
theorem encTo_succ (l : List UInt8) (k j : Nat) : encTo l k (j + 1) = encTo l k j ++ [sgn (sxt ((l.drop k).take 3) j)] := by
 simp [encTo, List.range_succ]
theorem encTo_next (l : List UInt8) (k n : Nat) (hk : k < l.length) (h3 : k = l.length ∨ k % 3 = 0) (hn : n = min 3 (l.length - k)) : encTo l k (n + 1) = encTo l (k + n) 0 := by
 have hn3 : n ≤ 3 := by omega
 have hnk : n ≤ l.length - k := by omega
 have hn0 : 0 < n := by omega
 have hk3 : k % 3 = 0 := by omega
 have e1 : l.take (k + n) = l.take k ++ (l.drop k).take n := List.take_add
 have hlen : ((l.drop k).take n).length = n := by rw [List.length_take, List.length_drop]; omega
 have htk : (l.take k).length = k := by rw [List.length_take]; omega
 have e2 : (l.drop k).take 3 = (l.drop k).take n := by
  rcases Nat.lt_or_ge 3 (l.length - k) with h | h
  ·
   rw [show n = 3 by omega]
  ·
   rw [List.take_of_length_le (by rw [List.length_drop]; omega), List.take_of_length_le (by rw [List.length_drop]; omega)]
 rw [encTo_zero, e1, enc_append _ _ (by rw [htk]; exact hk3), enc_small ((l.drop k).take n) (fun h => by rw [h] at hlen; simp at hlen; omega) (by rw [hlen]; exact hn3)]
 simp only [encTo, chunk, e2, hlen]
def thr (x0 x1 x2 x3 k : Nat) : Nat := (x0 * 262144 + x1 * 4096 + x2 * 64 + x3) / 256 ^ (2 - k) % 256
def num (c : UInt8) : Nat := (Lib.indexByte signs c).toNat
def isSign (c : UInt8) : Bool := decide (0 ≤ Lib.indexByte signs c)
theorem index_lt (c : UInt8) : Lib.indexByte signs c < 64 := by
 have : ∀ c : Fin 256, Lib.indexByte signs (UInt8.ofNat c.val) < 64 := by decide +kernel
 have h := this ⟨c.toNat, c.toNat_lt⟩
 simpa using h
theorem num_lt (c : UInt8) : num c < 64 := by have := index_lt c; unfold num; omega
theorem num_sgn : ∀ k, k < 64 → num (sgn k) = k ∧ isSign (sgn k) = true := by decide +kernel
theorem sgn_num (c : UInt8) (h : isSign c = true) : sgn (num c) = c := by
 have : ∀ c : Fin 256, isSign (UInt8.ofNat c.val) = true → sgn (num (UInt8.ofNat c.val)) = UInt8.ofNat c.val := by decide +kernel
 have h' := this ⟨c.toNat, c.toNat_lt⟩
 simp at h'
 exact h' h
def nm (l : List UInt8) (k : Nat) : Nat := if k < l.length then num (l.getD k 0) else 0
def thrL (l : List UInt8) : List UInt8 := (List.range (l.length - 1)).map fun k => UInt8.ofNat (thr (nm l 0) (nm l 1) (nm l 2) (nm l 3) k)
def partOk (l : List UInt8) : Bool := l.all isSign && decide (1 < l.length) && decide (sxt (thrL l) 0 = nm l 0 ∧ sxt (thrL l) 1 = nm l 1 ∧ sxt (thrL l) 2 = nm l 2 ∧ sxt (thrL l) 3 = nm l 3)
theorem thrL_length (l : List UInt8) : (thrL l).length = l.length - 1 := by simp [thrL]
def dec : List UInt8 → Option (List UInt8)
 | [] => some []
 | [a] => if partOk [a] = true then some (thrL [a]) else none
 | [a, b] => if partOk [a, b] = true then some (thrL [a, b]) else none
 | [a, b, c] => if partOk [a, b, c] = true then some (thrL [a, b, c]) else none
 | a :: b :: c :: d :: r => if partOk [a, b, c, d] = true then (dec r).map (thrL [a, b, c, d] ++ ·) else none
theorem dec_step (t : List UInt8) (h : t ≠ []) : dec t = if partOk (t.take 4) = true then (dec (t.drop 4)).map (thrL (t.take 4) ++ ·) else none := by
 match t, h with
 | [a], _ => simp [dec]
 | [a, b], _ => simp [dec]
 | [a, b, c], _ => simp [dec]
 | a :: b :: c :: d :: r, _ => rw [dec]; rfl
end B64
namespace B64
theorem index_at : ∀ (l : List UInt8) (c : UInt8) (i : Nat), i < l.length → l.getD i 0 = c → (∀ j, j < i → l.getD j 0 ≠ c) → Lib.indexByte l c = i
 | [], _, i, h, _, _ => by simp at h
 | b :: l, c, 0, _, h, _ => by simp at h; simp [Lib.indexByte, h]
 | b :: l, c, i + 1, h, h1, h2 => by
  have hb : (b == c) = false := by have := h2 0 (by omega); simpa using this
  have ih := index_at l c i (by simpa using h) (by simpa using h1) (fun j hj => by have := h2 (j + 1) (by omega); simpa using this)
  rw [Lib.indexByte, hb, ih]
  simp
theorem index_none : ∀ (l : List UInt8) (c : UInt8), (∀ j, j < l.length → l.getD j 0 ≠ c) → Lib.indexByte l c = -1
 | [], _, _ => rfl
 | b :: l, c, h => by
  have hb : (b == c) = false := by have := h 0 (by simp); simpa using this
  have ih := index_none l c (fun j hj => by have := h (j + 1) (by simpa using hj); simpa using this)
  rw [Lib.indexByte, hb, ih]
  simp
def volTo (l : List UInt8) : Nat → Nat
 | 0 => 0
 | k + 1 => volTo l k * 256 + (l.getD k 0).toNat
theorem volTo_lt (l : List UInt8) : ∀ k, volTo l k < 256 ^ k
 | 0 => by simp [volTo]
 | k + 1 => by
  have := volTo_lt l k
  have := byte_lt l k
  rw [volTo, Nat.pow_succ]
  omega
theorem volTo_three (l : List UInt8) : volTo l 3 = vol l := by simp only [volTo, vol]; omega
theorem vol_take (l : List UInt8) : vol (l.take 3) = vol l := by
 match l with
 | [] => rfl
 | [a] => rfl
 | [a, b] => rfl
 | a :: b :: c :: r => rfl
theorem sxt_take (l : List UInt8) (k : Nat) : sxt (l.take 3) k = sxt l k := by rw [sxt, vol_take, sxt]
theorem encTo_more (l : List UInt8) (k n : Nat) (hk : k < l.length) (hn : n = min 3 (l.length - k)) : encTo l (k + n) 0 = encTo l (k + 3) 0 := by
 rw [encTo_zero, encTo_zero]
 rcases Nat.lt_or_ge (l.length - k) 3 with h | h
 ·
  rw [List.take_of_length_le (by omega), List.take_of_length_le (by omega)]
 ·
  rw [show n = 3 by omega]
def sxv (v k : Nat) : Nat := v / 64 ^ (3 - k) % 64
theorem sxv_vol (l : List UInt8) (k : Nat) : sxv (volTo l 3) k = sxt (l.take 3) k := by rw [volTo_three, sxt_take]; rfl
theorem and63 (x : Nat) (h : x < 4611686018427387904) : bits .and .i64 (x : Int) 63 = ((x % 64 : Nat) : Int) := by
 have := bits_mask .i64 62 (by decide) (fun n h0 h1 => by rw [IntKind.wrap_i64]; have : (2:Int)^62 = 4611686018427387904 := (by decide); omega) 6 (by decide) (x : Int) (by omega) (by have : (2:Int)^62 = 4611686018427387904 := (by decide); omega)
 simpa using this
theorem shr_and (v j : Nat) (hj : j ≤ 3) (hv : v < 16777216) : bits .and .i64 ((v : Int) / 2 ^ (18 - 6 * j)) 63 = ((sxv v j : Nat) : Int) := by
 have e : (v : Int) / 2 ^ (18 - 6 * j) = ((v / 64 ^ (3 - j) : Nat) : Int) := by
  rw [show (64 : Nat) = 2 ^ 6 from rfl, ← Nat.pow_mul, show 6 * (3 - j) = 18 - 6 * j by omega]
  simp
 have : v / 64 ^ (3 - j) ≤ v := Nat.div_le_self _ _
 rw [e, and63 _ (by omega)]
 rfl
theorem and_mask (x i : Nat) (hi : i ≤ 62) (h : x < 4611686018427387904) : bits .and .i64 (x : Int) ((2 : Int) ^ i - 1) = ((x % 2 ^ i : Nat) : Int) := by
 have := bits_mask .i64 62 (by decide) (fun n h0 h1 => by
  rw [IntKind.wrap_i64]
  have : (2:Int)^62 = 4611686018427387904 := by decide
  omega) i hi (x : Int) (by omega) (by
  have : (2:Int)^62 = 4611686018427387904 := by decide
  omega)
 simpa using this
theorem and0 (x : Nat) (h : x < 4611686018427387904) : bits .and .i64 (x : Int) 0 = ((0 : Nat) : Int) := by
 have := and_mask x 0 (by decide) h
 simpa [Nat.mod_one] using this
theorem and3 (x : Nat) (h : x < 4611686018427387904) : bits .and .i64 (x : Int) 3 = ((x % 4 : Nat) : Int) := and_mask x 2 (by decide) h
theorem and15 (x : Nat) (h : x < 4611686018427387904) : bits .and .i64 (x : Int) 15 = ((x % 16 : Nat) : Int) := and_mask x 4 (by decide) h
structure RS where
 out : List UInt8
 v : Nat
 bits : Nat
def rstep (s : RS) (c : UInt8) : RS :=
 if s.bits + 6 ≥ 8 then ⟨s.out ++ [UInt8.ofNat ((s.v * 64 + num c) / 2 ^ (s.bits - 2))], (s.v * 64 + num c) % 2 ^ (s.bits - 2), s.bits - 2⟩
 else ⟨s.out, s.v * 64 + num c, s.bits + 6⟩
def rst (l : List UInt8) : RS := l.foldl rstep ⟨[], 0, 0⟩
def RS.ok (s : RS) : Prop := s.v < 2 ^ s.bits ∧ (s.bits = 0 ∨ s.bits = 2 ∨ s.bits = 4 ∨ s.bits = 6)
theorem rstep_ok {s : RS} (h : s.ok) (c : UInt8) : (rstep s c).ok := by
 have hn := num_lt c
 obtain ⟨o, v, b⟩ := s
 obtain ⟨h1, h2⟩ := h
 simp only at h1 h2
 rcases h2 with rfl | rfl | rfl | rfl
 ·
  simp [rstep, RS.ok]; omega
 ·
  simp [rstep, RS.ok, Nat.mod_one]
 ·
  simp [rstep, RS.ok]; omega
 ·
  simp [rstep, RS.ok]; omega
theorem rst_ok (l : List UInt8) : (rst l).ok := by
 have : ∀ (l : List UInt8) (s : RS), s.ok → (l.foldl rstep s).ok := by
  intro l
  induction l with
  | nil => exact fun s h => h
  | cons c l ih => exact fun s h => ih _ (rstep_ok h c)
 exact this l _ ⟨by decide, .inl rfl⟩
theorem rst_snoc (l : List UInt8) (c : UInt8) : rst (l ++ [c]) = rstep (rst l) c := by simp [rst]
theorem rst_le (l : List UInt8) : (rst l).out.length ≤ l.length := by
 have : ∀ (l : List UInt8) (s : RS), (l.foldl rstep s).out.length ≤ s.out.length + l.length := by
  intro l
  induction l with
  | nil => exact fun s => by simp
  | cons c l ih =>
   intro s
   have := ih (rstep s c)
   have h2 : (rstep s c).out.length ≤ s.out.length + 1 := by unfold rstep; split <;> simp
   simp only [List.foldl_cons, List.length_cons]
   omega
 simpa [rst] using this l ⟨[], 0, 0⟩
def rdec (l : List UInt8) : Option (List UInt8) := if l.all isSign = true ∧ enc (rst l).out = l then some (rst l).out else none
theorem sxv_lt (v k : Nat) : sxv v k < 64 := Nat.mod_lt _ (by decide)
end B64
section
open Go.RowKit
theorem info5 : (Tryz.prog.info? 5).map (fun i => (i.zero, i.size, i.bytes)) = some (some (.int .u8 0), 1, 1) := by kernel_rfl

end
section
open Go.RowKit B64
theorem sign_ix (q : Nat) (hq : q < 64) (w : World) : (Instr.index 9 (.string ⟨#[65, 66, 67, 68, 69, 70, 71, 72, 73, 74, 75, 76, 77, 78, 79, 80, 81, 82, 83, 84, 85, 86, 87, 88, 89, 90, 97, 98, 99, 100, 101, 102, 103, 104, 105, 106, 107, 108, 109, 110, 111, 112, 113, 114, 115, 116, 117, 118, 119, 120, 121, 122, 48, 49, 50, 51, 52, 53, 54, 55, 56, 57, 45, 95]⟩) (.int .i64 (q : Int))).run Tryz.prog w = .ok (.int .u8 ((sgn q).toNat : Int)) w := by
 have key : ∀ q : Fin 64, (ByteArray.mk #[65, 66, 67, 68, 69, 70, 71, 72, 73, 74, 75, 76, 77, 78, 79, 80, 81, 82, 83, 84, 85, 86, 87, 88, 89, 90, 97, 98, 99, 100, 101, 102, 103, 104, 105, 106, 107, 108, 109, 110, 111, 112, 113, 114, 115, 116, 117, 118, 119, 120, 121, 122, 48, 49, 50, 51, 52, 53, 54, 55, 56, 57, 45, 95])[q.val]'(by have := q.isLt; exact this) = sgn q.val := by decide
 rw [run_index_string w 9 _ .i64 _ Tryz.underlying9, dif_pos ⟨by omega, by have : (ByteArray.mk #[65, 66, 67, 68, 69, 70, 71, 72, 73, 74, 75, 76, 77, 78, 79, 80, 81, 82, 83, 84, 85, 86, 87, 88, 89, 90, 97, 98, 99, 100, 101, 102, 103, 104, 105, 106, 107, 108, 109, 110, 111, 112, 113, 114, 115, 116, 117, 118, 119, 120, 121, 122, 48, 49, 50, 51, 52, 53, 54, 55, 56, 57, 45, 95]).size = 64 := rfl; omega⟩]
 have := key ⟨q, hq⟩
 simp only [Int.toNat_natCast]
 rw [this]
end
section
open Go.RowKit B64
end
section
open Go.RowKit B64
theorem part_all_sign (l : List UInt8) (h : ∀ j, j < l.length → isSign (l.getD j 0) = true) : l.all isSign = true := by
 rw [List.all_eq_true]
 intro x hx
 obtain ⟨j, hj, rfl⟩ := List.getElem_of_mem hx
 have := h j hj
 rwa [List.getD_eq_getElem?_getD, List.getElem?_eq_getElem hj] at this
end
section
open Go.RowKit B64
end
section
open Go.RowKit B64
theorem sgn_walk (c : UInt8) (w : World) :
  Calls Tryz.prog 134 #[.int .u8 (c.toNat : Int)] w fun e w' => e = .returned (.int .i64 (Lib.indexByte signs c)) ∧ w = w' := by
 go_enter Tryz.func134, Tryz.ntmps134
 go_wp2_with fail
 go_loop [3] (fun i => ∃ k : Nat, k ≤ 64 ∧ i = .int .i64 k ∧ Hid (∀ j, j < k → sgn j ≠ c)) (fun i => 64 - (intOf i).toNat)
 case atStart => exact ⟨0, by omega, rfl, fun j hj => by omega⟩
 case round =>
  obtain ⟨k, hk, rfl, hno⟩ := hrel
  by_cases hlt : k < 64
  ·
   have hsg := sign_ix k hlt
   by_cases he : sgn k = c
   ·
    have hb : (((sgn k).toNat : Int) == (c.toNat : Int)) = true := by simp only [he, beq_self_eq_true]
    have hf := Lib.hid (index_at signs c k (by simpa [signs] using hlt) he hno.out)
    have HE := Lib.hid he
    clear he
    go_wp2_with fail
    go_ret
    exact ⟨by rw [hf.out]; rfl, rfl⟩
   ·
    have hb : (((sgn k).toNat : Int) == (c.toNat : Int)) = false := by
     rw [beq_eq_false_iff_ne]
     intro h
     exact he (UInt8.toNat_inj.1 (by exact_mod_cast h))
    have HN : Hid (∀ j, j < k + 1 → sgn j ≠ c) := fun j hj => by
     rcases Nat.lt_or_ge j k with h | h
     ·
      exact hno.out j h
     ·
      rw [show j = k by omega]; exact he
    clear he
    go_wp2_with fail
    go_round
    case rel => exact ⟨k + 1, by omega, by go_num, HN⟩
    case measure => simp [intOf]; omega
  ·
   have hf := Lib.hid (index_none signs c (fun j hj => hno.out j (by simp [signs] at hj; omega)))
   go_wp2_with fail
   go_ret
   exact ⟨by rw [hf.out]; rfl, rfl⟩
end
section
open Go.RowKit B64
theorem renc_walk (A : Option Addr) (m c : Nat) (l : List UInt8) (w : World) (hr : Reads w w.heap.size 1 A m (Lib.byteCells l)) (hm : m ≤ 1000000) :
  Calls Tryz.prog 112 #[.slice A m c] w fun e w' => e = .returned (.string ⟨(enc l).toArray⟩) ∧ Below w.heap.size w w' := by
 have hl := hr.get
 obtain ⟨i0, hi, hz0, hz1, hz2⟩ := info_parts info5
 go_enter Tryz.func112, Tryz.ntmps112
 go_wp2_with fail
 go_loopw [3, 4] (fun ov iv wr => ∃ k : Nat, iv = .int .i64 k ∧ Hid (k % 3 = 0) ∧ k ≤ m + 2 ∧ wr.ownsRow w.heap.size 5 1 ov (encTo l k 0).length (Lib.byteCells (encTo l k 0)) ∧ Below w.heap.size w wr) (fun _ iv _ => m + 3 - (intOf iv).toNat)
 case atStart => exact ⟨0, rfl, rfl, by omega, World.ownsRow_nil _ _ _ _, Below.refl _ _⟩
 case round =>
  obtain ⟨k, rfl, hk3, hkm, hown, hbl⟩ := hrel
  by_cases hlt : k < m
  ·
   have hr1 := hr.below hbl
   go_wp2_with fail
   go_loop [5, 6, 7] (fun vv nv jv => ∃ j : Nat, j ≤ 3 ∧ jv = .int .i64 j ∧ vv = .int .i64 (volTo (l.drop k) j : Nat) ∧ nv = .int .i64 (min j (m - k) : Nat)) (fun _ _ jv => 3 - (intOf jv).toNat)
   case atStart => exact ⟨0, by omega, rfl, rfl, by simp⟩
   case round =>
    obtain ⟨j, hj, rfl, rfl, rfl⟩ := hrel
    by_cases hj3 : j < 3
    ·
     have hv := volTo_lt (l.drop k) j
     have hv2 : volTo (l.drop k) j < 65536 := Nat.lt_of_lt_of_le hv (Nat.pow_le_pow_right (n := 256) (by decide) (show j ≤ 2 by omega))
     clear hv
     generalize hgv : volTo (l.drop k) j = v at *
     have HV := Lib.hid hgv
     clear hgv
     by_cases hkj : k + j < m
     ·
      obtain ⟨b, o, x, rfl, hb, hcell, hx, hxl⟩ := hr1.byteN hkj
      go_wp2_with fail
      have e : volTo (l.drop k) (j + 1) = v * 256 + x := by
       rw [volTo, HV.out, ← hxl.out]; simp [List.getElem?_drop]
      exact ⟨⟨j + 1, by omega, by go_num, by rw [e]; go_num, by rw [show min (j + 1) (m - k) = min j (m - k) + 1 by omega]; go_num⟩, by simp [intOf]; omega⟩
     ·
      go_wp2_with fail
      have e : volTo (l.drop k) (j + 1) = v * 256 := by
       rw [volTo, HV.out]
       simp [List.getElem?_drop, List.getElem?_eq_none (show l.length ≤ k + j by omega)]
      exact ⟨⟨j + 1, by omega, by go_num, by rw [e]; go_num, by rw [show min (j + 1) (m - k) = min j (m - k) by omega]⟩, by simp [intOf]; omega⟩
    ·
     have hj3' : j = 3 := by omega
     subst hj3'
     have hv := volTo_lt (l.drop k) 3
     have hv2 : volTo (l.drop k) 3 < 16777216 := hv
     clear hv
     obtain ⟨v, hgv⟩ : ∃ v, volTo (l.drop k) 3 = v := ⟨_, rfl⟩
     rw [hgv] at hv2
     rw [hgv]
     have HV := Lib.hid hgv
     clear hgv hj hj3
     obtain ⟨n, hn1, hn3, hn, hnm⟩ : ∃ n, 1 ≤ n ∧ n ≤ 3 ∧ min 3 (m - k) = n ∧ Hid (n = min 3 (m - k)) := ⟨min 3 (m - k), by omega, by omega, rfl, rfl⟩
     rw [hn]
     clear hn
     go_wp2_with fail
     go_loopw [3, 8] (fun ov kv wr => ∃ j : Nat, j ≤ n + 1 ∧ kv = .int .i64 j ∧ wr.ownsRow w.heap.size 5 1 ov (encTo l k j).length (Lib.byteCells (encTo l k j)) ∧ Below w.heap.size w wr) (fun _ kv _ => n + 1 - (intOf kv).toNat)
     case atStart => exact ⟨0, by omega, rfl, hown, hbl⟩
     case round =>
      clear hown hbl hr1
      obtain ⟨j, hj, rfl, hown, hbl⟩ := hrel
      by_cases hjn : j < n + 1
      ·
       have hsg := sign_ix (sxv v j) (sxv_lt v j)
       have hsh := shr_and v j (by omega) hv2
       have hle := encTo_le l k j
       have HE := Lib.hid (encTo_succ l k j)
       rw [show sgn (sxt ((l.drop k).take 3) j) = sgn (sxv v j) by rw [← sxv_vol, HV.out]] at HE
       go_wp2_with (at_builtin; go_loud (refine wpList_append_new wr rfl (.tmp 43) (.tmp 51) 156 rfl w.heap.size 5 i0 (.int .u8 0) 1 1 Tryz.underlying156 hi hz0 hz1 hz2 rfl (by decide) u3 (encTo l k j).length (Lib.byteCells (encTo l k j)) rfl hown [.int .u8 ((sgn (sxv v j)).toNat : Int)] rfl rfl (by simp [Value.oneCell']) (by unfold maxLen; omega) (by omega) hbl.size ?_); intro v' w2 hown2 hg2)
       have hown3 : w2.ownsRow w.heap.size 5 1 v' (encTo l k (j + 1)).length (Lib.byteCells (encTo l k (j + 1))) := by
        rw [HE.out, Lib.byteCells_append, List.length_append]
        exact hown2
       have hbl3 := grown_below hbl hown hg2 hbl.size
       clear HE hown2 hg2 hsh hsg hown hbl
       go_wp2_with fail
       go_roundw
       case rel =>
        first | exact ⟨j + 1, by omega, by go_num, hown3, hbl3⟩ | ((repeat apply Exists.intro); exact ⟨⟨j + 1, by omega, by go_num, hown3, hbl3⟩, rfl⟩)
       case measure => simp [intOf]; omega
      ·
       have hj1 : j = n + 1 := by omega
       subst hj1
       have e1 := encTo_next l k n (by omega) (by right; exact hk3.out) (by rw [hl]; exact hnm.out)
       have e2 := encTo_more l k n (by omega) (by rw [hl]; exact hnm.out)
       rw [e1, e2] at hown
       clear e1 e2
       go_wp2_with fail
       exact ⟨⟨k + 3, by go_num, by have := hk3.out; show _ = _; omega, by omega, hown, hbl⟩, by simp [intOf]; omega⟩
  ·
   obtain ⟨A', c', hu3, hnc, hrd⟩ := own_reads hown (Nat.le_refl _)
   have he : encTo l k 0 = enc l := by rw [encTo_zero, List.take_of_length_le (by omega)]
   have hcv : (convert 156 9 (.slice A' (encTo l k 0).length c')).run Tryz.prog wr = .ok (.string ⟨(enc l).toArray⟩) wr := by
    rw [reads_str (c := c') hrd 156 9 5 Tryz.underlying156 Tryz.underlying5 Tryz.underlying9, he]
   subst hu3
   clear he hown hrd
   go_wp2_with fail
   go_ret
   exact ⟨rfl, hbl⟩
end
section
open Go.RowKit B64
theorem toNat_small (n : Nat) (h : n < 256) : (UInt8.ofNat n).toNat = n := by simp; omega
def RDecPost (l : List UInt8) (w : World) (e : Ending) (w' : World) : Prop :=
 Below w.heap.size w w' ∧ ((∃ b v, rdec l = some b ∧ e = .returned (.tuple #[v, .int .i64 0]) ∧ w'.ownsRow w.heap.size 5 1 v b.length (Lib.byteCells b)) ∨ (rdec l = none ∧ e = .returned (.tuple #[.slice none 0 0, .int .i64 3])))
def RRel (l : List UInt8) (w : World) (ov vv bv iv : Value) (wr : World) : Prop :=
 ∃ k : Nat, k ≤ l.length ∧ iv = .int .i64 k ∧ Hid (∀ j, j < k → isSign (l.getD j 0) = true) ∧ vv = .int .i64 ((rst (l.take k)).v : Nat) ∧ bv = .int .i64 ((rst (l.take k)).bits : Nat) ∧
  wr.ownsRow w.heap.size 5 1 ov (rst (l.take k)).out.length (Lib.byteCells (rst (l.take k)).out) ∧ Below w.heap.size w wr

theorem rdec_walk (s : ByteArray) (l : List UInt8) (hs : s.data.toList = l) (w : World) (hm : s.size ≤ 1000000) :
  Calls Tryz.prog 130 #[.string s] w (RDecPost l w) := by
 have hsz : l.length = s.size := by rw [← hs, Lib.size_eq]
 obtain ⟨i0, hi, hz0, hz1, hz2⟩ := info_parts info5
 go_enter Tryz.func130, Tryz.ntmps130
 go_wp2_with fail
 go_loopw [4, 5, 6, 7] (fun ov vv bv iv wr => RRel l w ov vv bv iv wr) (fun _ _ _ iv _ => s.size - (intOf iv).toNat)
 case atStart => exact ⟨0, by omega, rfl, fun j hj => by omega, rfl, rfl, World.ownsRow_nil _ _ _ _, Below.refl _ _⟩
 case round =>
  obtain ⟨k, hk, rfl, hsg, rfl, rfl, hown, hbl⟩ := hrel
  have hok := rst_ok (l.take k)
  have hle := rst_le (l.take k)
  have HS := Lib.hid (rst_snoc (l.take k) (l.getD k 0))
  generalize hst : rst (l.take k) = st at *
  obtain ⟨o, v, b⟩ := st
  obtain ⟨hv, hb⟩ := hok
  simp only at hv hb hle hown ⊢
  by_cases hlt : k < s.size
  ·
   have htk : l.take (k + 1) = l.take k ++ [l.getD k 0] := by
    rw [List.take_succ_eq_append_getElem (by omega), List.getD_eq_getElem?_getD, List.getElem?_eq_getElem (by omega)]; rfl
   have hgk : l.getD k 0 = s[k] := by subst hs; rw [List.getD_eq_getElem?_getD, List.getElem?_eq_getElem (by simpa using hlt)]; rfl
   rw [← htk, hgk] at HS
   have HGK := Lib.hid hgk
   have hole : o.length ≤ k := by have : (l.take k).length ≤ k := List.length_take_le _ _; omega
   clear htk hgk hle hst
   have hge := Lib.indexByte_ge signs s[k]
   have hlt64 := index_lt s[k]
   go_wp2_with fail
   refine (sgn_walk s[k] wr).mono ?_
   rintro e w1 ⟨rfl, rfl⟩
   obtain ⟨K, hK, hKge, hKlt⟩ : ∃ K, Lib.indexByte signs s[k] = K ∧ -1 ≤ K ∧ K < 64 := ⟨_, rfl, hge, hlt64⟩
   rw [hK]
   have HK := Lib.hid hK
   clear hK hge hlt64
   by_cases hneg : K < 0
   ·
    go_wp2_with fail
    go_ret2
    refine ⟨hbl, .inr ⟨?_, rfl⟩⟩
    rw [rdec, if_neg]
    rintro ⟨h, _⟩
    rw [List.all_eq_true] at h
    have := h s[k] (by rw [← HGK.out, List.getD_eq_getElem?_getD, List.getElem?_eq_getElem (by omega)]; exact List.getElem_mem _)
    rw [isSign, HK.out] at this
    simp at this
    omega
   ·
    obtain ⟨q, rfl⟩ := Int.eq_ofNat_of_zero_le (show 0 ≤ K by omega)
    have HQ : Hid (num s[k] = q) := by show _ = _; rw [num, HK.out]; simp
    have hq : q < 64 := by omega
    have HSg : Hid (∀ j, j < k + 1 → isSign (l.getD j 0) = true) := fun j hj => by
     rcases Nat.lt_or_ge j k with h | h
     ·
      exact hsg.out j h
     ·
      rw [show j = k by omega, HGK.out, isSign, HK.out]; simp
    clear hneg hsg HK hKge hKlt
    rcases hb with rfl | rfl | rfl | rfl
    ·
     have hv : v < 1 := hv
     go_wp2_with fail
     have hr2 : rstep ⟨o, v, 0⟩ s[k] = ⟨o, v * 64 + q, 6⟩ := by simp [rstep, HQ.out]
     refine ⟨⟨k + 1, by omega, by go_num, HSg, by rw [HS.out, hr2]; go_num, by rw [HS.out, hr2]; rfl, ?_, hbl⟩, by simp [intOf]; omega⟩
     rw [HS.out, hr2]
     exact hown
    ·
     have hv : v < 4 := hv
     have hand : bits .and .i64 ((v : Int) * 64 + (q : Int)) 0 = (((v * 64 + q) % 1 : Nat) : Int) := by
      have := and0 (v * 64 + q) (by omega)
      simp only [Int.natCast_add, Int.natCast_mul] at this
      first | exact this | (rw [show (v * 64 + q) % 1 = 0 by omega]; exact this)
     go_wp2_with (at_builtin; refine wpList_append_new wr rfl (.tmp 31) (.tmp 36) 156 rfl w.heap.size 5 i0 (.int .u8 0) 1 1 Tryz.underlying156 hi hz0 hz1 hz2 rfl (by decide) u4 o.length (Lib.byteCells o) rfl hown _ rfl rfl (by simp [Value.oneCell']) (by unfold maxLen; omega) (by omega) hbl.size ?_; intro v' w2 hown2 hg2)
     have hbl3 := grown_below hbl hown hg2 hbl.size
     have hb2 : Lib.byteCells o ++ [.int .u8 (((v : Int) * 64 + (q : Int)))] = Lib.byteCells (o ++ [UInt8.ofNat ((v * 64 + q))]) := by
      rw [Lib.byteCells_append]
      congr 1
      simp only [Lib.byteCells, List.map_cons, List.map_nil]
      rw [toNat_small ((v * 64 + q)) (by omega)]
      simp
     rw [hb2] at hown2
     have hr2 : rstep ⟨o, v, 2⟩ s[k] = ⟨o ++ [UInt8.ofNat ((v * 64 + q))], (v * 64 + q) % 1, 0⟩ := by
      simp [rstep, HQ.out]
     refine ⟨⟨k + 1, by omega, by go_num, HSg, by rw [HS.out, hr2]; show Value.int _ _ = Value.int _ _; first | rfl | (congr 1; simp [Nat.mod_one]), by rw [HS.out, hr2]; rfl, ?_, hbl3⟩, by simp [intOf]; omega⟩
     rw [HS.out, hr2]
     simpa using hown2
    ·
     have hv : v < 16 := hv
     have hand : bits .and .i64 ((v : Int) * 64 + (q : Int)) 3 = (((v * 64 + q) % 4 : Nat) : Int) := by
      have := and3 (v * 64 + q) (by omega)
      simp only [Int.natCast_add, Int.natCast_mul] at this
      first | exact this | (rw [show (v * 64 + q) % 1 = 0 by omega]; exact this)
     go_wp2_with (at_builtin; refine wpList_append_new wr rfl (.tmp 31) (.tmp 36) 156 rfl w.heap.size 5 i0 (.int .u8 0) 1 1 Tryz.underlying156 hi hz0 hz1 hz2 rfl (by decide) u4 o.length (Lib.byteCells o) rfl hown _ rfl rfl (by simp [Value.oneCell']) (by unfold maxLen; omega) (by omega) hbl.size ?_; intro v' w2 hown2 hg2)
     have hbl3 := grown_below hbl hown hg2 hbl.size
     have hb2 : Lib.byteCells o ++ [.int .u8 (((v : Int) * 64 + (q : Int)) / 4)] = Lib.byteCells (o ++ [UInt8.ofNat ((v * 64 + q) / 4)]) := by
      rw [Lib.byteCells_append]
      congr 1
      simp only [Lib.byteCells, List.map_cons, List.map_nil]
      rw [toNat_small ((v * 64 + q) / 4) (by omega)]
      simp
     rw [hb2] at hown2
     have hr2 : rstep ⟨o, v, 4⟩ s[k] = ⟨o ++ [UInt8.ofNat ((v * 64 + q) / 4)], (v * 64 + q) % 4, 2⟩ := by
      simp [rstep, HQ.out]
     refine ⟨⟨k + 1, by omega, by go_num, HSg, by rw [HS.out, hr2]; show Value.int _ _ = Value.int _ _; first | rfl | (congr 1; simp [Nat.mod_one]), by rw [HS.out, hr2]; rfl, ?_, hbl3⟩, by simp [intOf]; omega⟩
     rw [HS.out, hr2]
     simpa using hown2
    ·
     have hv : v < 64 := hv
     have hand : bits .and .i64 ((v : Int) * 64 + (q : Int)) 15 = (((v * 64 + q) % 16 : Nat) : Int) := by
      have := and15 (v * 64 + q) (by omega)
      simp only [Int.natCast_add, Int.natCast_mul] at this
      first | exact this | (rw [show (v * 64 + q) % 1 = 0 by omega]; exact this)
     go_wp2_with (at_builtin; refine wpList_append_new wr rfl (.tmp 31) (.tmp 36) 156 rfl w.heap.size 5 i0 (.int .u8 0) 1 1 Tryz.underlying156 hi hz0 hz1 hz2 rfl (by decide) u4 o.length (Lib.byteCells o) rfl hown _ rfl rfl (by simp [Value.oneCell']) (by unfold maxLen; omega) (by omega) hbl.size ?_; intro v' w2 hown2 hg2)
     have hbl3 := grown_below hbl hown hg2 hbl.size
     have hb2 : Lib.byteCells o ++ [.int .u8 (((v : Int) * 64 + (q : Int)) / 16)] = Lib.byteCells (o ++ [UInt8.ofNat ((v * 64 + q) / 16)]) := by
      rw [Lib.byteCells_append]
      congr 1
      simp only [Lib.byteCells, List.map_cons, List.map_nil]
      rw [toNat_small ((v * 64 + q) / 16) (by omega)]
      simp
     rw [hb2] at hown2
     have hr2 : rstep ⟨o, v, 6⟩ s[k] = ⟨o ++ [UInt8.ofNat ((v * 64 + q) / 16)], (v * 64 + q) % 16, 4⟩ := by
      simp [rstep, HQ.out]
     refine ⟨⟨k + 1, by omega, by go_num, HSg, by rw [HS.out, hr2]; show Value.int _ _ = Value.int _ _; first | rfl | (congr 1; simp [Nat.mod_one]), by rw [HS.out, hr2]; rfl, ?_, hbl3⟩, by simp [intOf]; omega⟩
     rw [HS.out, hr2]
     simpa using hown2
  ·
   have hks : k = l.length := by omega
   obtain ⟨A', c', hu4, hnc, hrd⟩ := own_reads hown (Nat.le_refl _)
   have hno : o.length ≤ 1000000 := by have : (l.take k).length ≤ k := List.length_take_le _ _; omega
   have HST : Hid (rst l = ⟨o, v, b⟩) := by
    show _ = _
    rw [← hst, hks, List.take_length]
   clear HS hst hle
   have hsl : s.toList = l := by rw [Lib.toList_data, hs]
   have HSL := Lib.hid hsl
   clear hsl
   subst hu4
   go_wp2_with fail
   refine (renc_walk A' o.length c' o wr hrd hno).mono ?_
   rintro e w1 ⟨rfl, hb1⟩
   have hal : l.all isSign = true := part_all_sign l (fun j hj => hsg.out j (by omega))
   have hown1 := ownsRow_below hown hb1
   by_cases heq : enc o = l
   ·
    have hne : (enc o == s.toList) = true := by rw [HSL.out, heq]; simp
    have hrdec : Hid (rdec l = some o) := by show _ = _; rw [rdec, HST.out, if_pos ⟨hal, heq⟩]
    clear heq hal
    go_wp2_with fail
    go_ret2
    exact ⟨hbl.trans (hb1.mono hbl.size), .inl ⟨o, _, hrdec.out, rfl, hown1⟩⟩
   ·
    have hne : (enc o == s.toList) = false := by rw [HSL.out]; simp [heq]
    have hrdec : Hid (rdec l = none) := by show _ = _; rw [rdec, HST.out, if_neg (fun h => heq h.2)]
    clear heq hal
    go_wp2_with fail
    go_ret2
    exact ⟨hbl.trans (hb1.mono hbl.size), .inr ⟨hrdec.out, rfl⟩⟩
end
namespace B64
theorem getD_bt (l : List UInt8) (k : Nat) (h : k < l.length) : l.getD k 0 = l[k] := by
 rw [List.getD_eq_getElem?_getD, List.getElem?_eq_getElem h]; rfl
theorem part_chunk (p : List UInt8) (h : partOk p = true) (h4 : p.length ≤ 4) : chunk (thrL p) = p ∧ 1 < p.length := by
 simp only [partOk, Bool.and_eq_true, List.all_eq_true, decide_eq_true_eq] at h
 obtain ⟨⟨hs, hl⟩, h0, h1, h2, h3⟩ := h
 refine ⟨?_, hl⟩
 have hk : ∀ k (hk : k < p.length), sgn (sxt (thrL p) k) = p[k] := by
  intro k hk
  have e : sxt (thrL p) k = nm p k := by
   match k, hk with
   | 0, _ => exact h0
   | 1, _ => exact h1
   | 2, _ => exact h2
   | 3, _ => exact h3
   | k + 4, h => omega
  rw [e, nm, if_pos hk, getD_bt p k hk]
  exact sgn_num _ (hs _ (List.getElem_mem hk))
 apply List.ext_getElem
 ·
  rw [chunk_length, thrL_length]; omega
 ·
  intro k h1 h2
  simp only [chunk, List.getElem_map, List.getElem_range]
  exact hk k h2
theorem nm_chunk (o : List UInt8) (k : Nat) (h : k ≤ o.length) : nm (chunk o) k = sxt o k := by
 have hl : k < (chunk o).length := by rw [chunk_length]; omega
 rw [nm, if_pos hl, getD_bt _ _ hl]
 simp only [chunk, List.getElem_map, List.getElem_range]
 exact (num_sgn _ (sxt_lt o k)).1
theorem nm_chunk_out (o : List UInt8) (k : Nat) (h : o.length < k) : nm (chunk o) k = 0 := by
 have hl : ¬ k < (chunk o).length := by rw [chunk_length]; omega
 rw [nm, if_neg hl]
theorem thrL_chunk (o : List UInt8) : thrL (chunk o) = (List.range o.length).map fun k => UInt8.ofNat (thr (nm (chunk o) 0) (nm (chunk o) 1) (nm (chunk o) 2) (nm (chunk o) 3) k) := by
 rw [thrL, chunk_length, Nat.add_sub_cancel]
theorem key1 (a : UInt8) : sxt [a] 2 = 0 ∧ sxt [a] 3 = 0 ∧ thr (sxt [a] 0) (sxt [a] 1) 0 0 0 = a.toNat := by
 have ha := a.toNat_lt
 refine ⟨?_, ?_, ?_⟩ <;> simp [thr, sxt, vol] <;> omega
theorem key2 (a b : UInt8) : sxt [a, b] 3 = 0 ∧ thr (sxt [a, b] 0) (sxt [a, b] 1) (sxt [a, b] 2) 0 0 = a.toNat ∧ thr (sxt [a, b] 0) (sxt [a, b] 1) (sxt [a, b] 2) 0 1 = b.toNat := by
 have ha := a.toNat_lt
 have hb := b.toNat_lt
 refine ⟨?_, ?_, ?_⟩ <;> simp [thr, sxt, vol] <;> omega
theorem key3 (a b c : UInt8) : thr (sxt [a, b, c] 0) (sxt [a, b, c] 1) (sxt [a, b, c] 2) (sxt [a, b, c] 3) 0 = a.toNat ∧ thr (sxt [a, b, c] 0) (sxt [a, b, c] 1) (sxt [a, b, c] 2) (sxt [a, b, c] 3) 1 = b.toNat ∧ thr (sxt [a, b, c] 0) (sxt [a, b, c] 1) (sxt [a, b, c] 2) (sxt [a, b, c] 3) 2 = c.toNat := by
 have ha := a.toNat_lt
 have hb := b.toNat_lt
 have hc := c.toNat_lt
 refine ⟨?_, ?_, ?_⟩ <;> simp [thr, sxt, vol] <;> omega
theorem chunk_part (o : List UInt8) (h0 : o ≠ []) (h3 : o.length ≤ 3) : partOk (chunk o) = true ∧ thrL (chunk o) = o := by
 have hi : ∀ k, isSign (sgn (sxt o k)) = true := fun k => (num_sgn _ (sxt_lt o k)).2
 have key : thrL (chunk o) = o ∧ sxt o 0 = nm (chunk o) 0 ∧ sxt o 1 = nm (chunk o) 1 ∧ sxt o 2 = nm (chunk o) 2 ∧ sxt o 3 = nm (chunk o) 3 := by
  rw [thrL_chunk]
  rcases o with _ | ⟨a, _ | ⟨b, _ | ⟨c, _ | ⟨d, r⟩⟩⟩⟩
  ·
   exact absurd rfl h0
  ·
   obtain ⟨q2, q3, ev⟩ := key1 a
   rw [nm_chunk [a] 0 (by simp), nm_chunk [a] 1 (by simp), nm_chunk_out [a] 2 (by simp), nm_chunk_out [a] 3 (by simp)]
   exact ⟨by simp [List.range_succ, ev], rfl, rfl, q2, q3⟩
  ·
   obtain ⟨q3, ev, ew⟩ := key2 a b
   rw [nm_chunk [a, b] 0 (by simp), nm_chunk [a, b] 1 (by simp), nm_chunk [a, b] 2 (by simp), nm_chunk_out [a, b] 3 (by simp)]
   exact ⟨by simp [List.range_succ, ev, ew], rfl, rfl, rfl, q3⟩
  ·
   obtain ⟨ev, ew, ex⟩ := key3 a b c
   rw [nm_chunk [a, b, c] 0 (by simp), nm_chunk [a, b, c] 1 (by simp), nm_chunk [a, b, c] 2 (by simp), nm_chunk [a, b, c] 3 (by simp)]
   exact ⟨by simp [List.range_succ, ev, ew, ex], rfl, rfl, rfl, rfl⟩
  ·
   simp at h3
 refine ⟨?_, key.1⟩
 simp only [partOk, Bool.and_eq_true, List.all_eq_true, decide_eq_true_eq, key.1]
 refine ⟨⟨fun x hx => ?_, ?_⟩, key.2⟩
 ·
  simp only [chunk, List.mem_map] at hx
  obtain ⟨k, _, rfl⟩ := hx
  exact hi k
 ·
  rw [chunk_length]
  have : 0 < o.length := List.length_pos_iff.2 h0
  omega
theorem b64_dec_enc : ∀ b : List UInt8, dec (enc b) = some b
 | [] => rfl
 | [a] => by
  have h := chunk_part [a] (by simp) (by simp)
  have hne : chunk [a] ≠ [] := by simp [chunk]
  rw [enc, dec_step _ hne, List.take_of_length_le (by rw [chunk_length]; simp), if_pos h.1, h.2, List.drop_of_length_le (by rw [chunk_length]; simp)]
  rfl
 | [a, b] => by
  have h := chunk_part [a, b] (by simp) (by simp)
  have hne : chunk [a, b] ≠ [] := by simp [chunk]
  rw [enc, dec_step _ hne, List.take_of_length_le (by rw [chunk_length]; simp), if_pos h.1, h.2, List.drop_of_length_le (by rw [chunk_length]; simp)]
  rfl
 | a :: b :: c :: r => by
  have h := chunk_part [a, b, c] (by simp) (by simp)
  have hl : (chunk [a, b, c]).length = 4 := chunk_length _
  have hne : chunk [a, b, c] ++ enc r ≠ [] := by simp [chunk]
  rw [enc, dec_step _ hne, List.take_left' hl, List.drop_left' hl, if_pos h.1, h.2, b64_dec_enc r]
  rfl
theorem enc_dec (n : Nat) : ∀ (l b : List UInt8), l.length ≤ n → dec l = some b → enc b = l := by
 induction n with
 | zero =>
  intro l b hl h
  obtain rfl : l = [] := List.eq_nil_of_length_eq_zero (by omega)
  simp only [dec, Option.some.injEq] at h
  subst h; rfl
 | succ n ih =>
  intro l b hl h
  rcases Decidable.em (l = []) with rfl | hne
  ·
   simp only [dec, Option.some.injEq] at h
   subst h; rfl
  ·
   rw [dec_step l hne] at h
   by_cases hp : partOk (l.take 4) = true
   ·
    rw [if_pos hp] at h
    obtain ⟨b', hb', rfl⟩ := Option.map_eq_some_iff.1 h
    obtain ⟨hc, h1⟩ := part_chunk _ hp (List.length_take_le _ _)
    have hpos : 0 < l.length := List.length_pos_iff.2 hne
    have ih' := ih (l.drop 4) b' (by rw [List.length_drop]; omega) hb'
    rcases Nat.lt_or_ge l.length 4 with h4 | h4
    ·
     rw [List.drop_of_length_le (by omega)] at hb' ih'
     simp only [dec, Option.some.injEq] at hb'
     subst hb'
     rw [List.append_nil, enc_small _ (by intro e; rw [e] at hc; rw [← hc] at h1; simp [chunk] at h1) (by rw [thrL_length, List.length_take]; omega), hc, List.take_of_length_le (by omega)]
    ·
     have hl4 : (l.take 4).length = 4 := by rw [List.length_take]; omega
     rw [enc_append _ _ (by rw [thrL_length, hl4]), ih', enc_small _ (by intro e; have := congrArg List.length e; rw [thrL_length, hl4] at this; simp at this) (by rw [thrL_length, hl4]; decide), hc, List.take_append_drop]
   ·
    rw [if_neg hp] at h; cases h
theorem enc_signs : ∀ b : List UInt8, (enc b).all isSign = true := by
 have hc : ∀ o : List UInt8, (chunk o).all isSign = true := by
  intro o
  rw [List.all_eq_true]
  intro x hx
  simp only [chunk, List.mem_map] at hx
  obtain ⟨k, _, rfl⟩ := hx
  exact (num_sgn _ (sxt_lt o k)).2
 intro b
 induction b using enc.induct with
 | case1 => rfl
 | case2 a => exact hc _
 | case3 a b => exact hc _
 | case4 a b c r ih => rw [enc, List.all_append, hc, ih]; rfl
theorem rst_enc_from : ∀ (b acc : List UInt8), ((enc b).foldl rstep ⟨acc, 0, 0⟩).out = acc ++ b := by
 have hn : ∀ o k, num (sgn (sxt o k)) = sxt o k := fun o k => (num_sgn _ (sxt_lt o k)).1
 intro b
 induction b using enc.induct with
 | case1 => intro acc; simp [enc]
 | case2 a =>
  intro acc
  have ha := a.toNat_lt
  have e : enc [a] = [sgn (sxt [a] 0), sgn (sxt [a] 1)] := rfl
  have ev : (sxt [a] 0 * 64 + sxt [a] 1) / 16 = a.toNat := by simp [sxt, vol]; omega
  rw [e]
  simp [rstep, hn, ev]
 | case3 a b =>
  intro acc
  have ha := a.toNat_lt
  have hb := b.toNat_lt
  have e : enc [a, b] = [sgn (sxt [a, b] 0), sgn (sxt [a, b] 1), sgn (sxt [a, b] 2)] := rfl
  have ev : (sxt [a, b] 0 * 64 + sxt [a, b] 1) / 16 = a.toNat := by simp [sxt, vol]; omega
  have ew : ((sxt [a, b] 0 * 64 + sxt [a, b] 1) % 16 * 64 + sxt [a, b] 2) / 4 = b.toNat := by simp [sxt, vol]; omega
  rw [e]
  simp [rstep, hn, ev, ew]
 | case4 a b c r ih =>
  intro acc
  have ha := a.toNat_lt
  have hb := b.toNat_lt
  have hc := c.toNat_lt
  have e : chunk [a, b, c] = [sgn (sxt [a, b, c] 0), sgn (sxt [a, b, c] 1), sgn (sxt [a, b, c] 2), sgn (sxt [a, b, c] 3)] := rfl
  have ev : (sxt [a, b, c] 0 * 64 + sxt [a, b, c] 1) / 16 = a.toNat := by simp [sxt, vol]; omega
  have ew : ((sxt [a, b, c] 0 * 64 + sxt [a, b, c] 1) % 16 * 64 + sxt [a, b, c] 2) / 4 = b.toNat := by simp [sxt, vol]; omega
  have ex : ((sxt [a, b, c] 0 * 64 + sxt [a, b, c] 1) % 16 * 64 + sxt [a, b, c] 2) % 4 * 64 + sxt [a, b, c] 3 = c.toNat := by simp [sxt, vol]; omega
  have key : (chunk [a, b, c]).foldl rstep ⟨acc, 0, 0⟩ = ⟨acc ++ [a, b, c], 0, 0⟩ := by
   rw [e]
   simp [rstep, hn, ev, ew, ex, Nat.mod_one]
  rw [enc, List.foldl_append, key, ih]
  simp
theorem rdec_eq (l : List UInt8) : rdec l = dec l := by
 by_cases h : l.all isSign = true ∧ enc (rst l).out = l
 ·
  rw [rdec, if_pos h]
  have := b64_dec_enc (rst l).out
  rw [h.2] at this
  exact this.symm
 ·
  rw [rdec, if_neg h]
  cases hd : dec l with
  | none => rfl
  | some b =>
   exfalso
   have he := enc_dec l.length l b (Nat.le_refl _) hd
   apply h
   have h2 : (rst l).out = b := by
    have := rst_enc_from b []
    rw [he] at this
    simpa [rst] using this
   exact ⟨by rw [← he]; exact enc_signs b, by rw [h2]; exact he⟩
theorem enc_length : ∀ l : List UInt8, (enc l).length = (l.length * 8 + 5) / 6
 | [] => rfl
 | [a] => by rw [enc, chunk_length]; simp
 | [a, b] => by rw [enc, chunk_length]; simp
 | a :: b :: c :: r => by
  rw [enc, List.length_append, chunk_length, enc_length r]
  simp only [List.length_cons, List.length_nil]
  omega
end B64
section
open Go.RowKit
def zeroT : Tm := .mk 0 0 ⟨#[]⟩ []
def markT (t : Tm) : List UInt8 := if (putT t).length = 0 then [] else [126] ++ B64.enc (putT t) ++ [126]
theorem put_le (t : Tm) : (putT t).length ≤ 65728 := by
 rw [putT]
 split
 ·
  rename_i h; exact enc_bound h
 ·
  simp
theorem mark_le (t : Tm) : (markT t).length ≤ 131460 := by
 have h1 := put_le t
 have h2 := B64.enc_le (putT t)
 rw [markT]
 split
 ·
  simp
 ·
  simp; omega
def innerO (l : List UInt8) : Option Tm := match B64.dec l with | none => none | some b => match oneT b with | .error _ => none | .ok t => some t
def sideB (l : List UInt8) : Bool := !decide (l.length < 2) && ([126].isPrefixOf l && [126].isSuffixOf l)
def midL (l : List UInt8) : List UInt8 := (l.drop 1).take (l.length - 2)
def readO (l : List UInt8) : Option Tm := if sideB l = true then innerO (midL l) else none
def ReadU (o : Option Tm) (w : World) (en : Ending) (w' : World) : Prop :=
 ∃ (kd nm : Int) (s : ByteArray) (A : Option Addr) (m cp : Nat), en = .returned (.tuple #[.agg #[.int .i64 kd, .int .i64 nm, .string s, .slice A m cp], .bool o.isSome]) ∧ TmV w' w.heap.size (o.getD zeroT) [.int .i64 kd, .int .i64 nm, .string s, .slice A m cp] ∧ Below w.heap.size w w'
theorem TmV.kind_num {w : World} {lo : Nat} {t : Tm} {kd nm : Int} {s : ByteArray} {A : Option Addr} {m c : Nat} (h : TmV w lo t [.int .i64 kd, .int .i64 nm, .string s, .slice A m c]) : kd = t.kind ∧ nm = t.num := by
 cases t
 rw [TmV] at h
 obtain ⟨A', c', vs, e, _⟩ := h
 simp only [cells4] at e
 injection e with e1 e
 injection e with e2 e
 injection e1 with _ e1
 injection e2 with _ e2
 exact ⟨e1, e2⟩
theorem rtext_walk (t : Tm) (kind n : Int) (s : ByteArray) (A : Option Addr) (m c : Nat) (w : World) (ht : TmV w 0 t [.int .i64 kind, .int .i64 n, .string s, .slice A m c]) :
  Calls Tryz.prog 89 #[.agg #[.int .i64 kind, .int .i64 n, .string s, .slice A m c]] w fun e w' => e = .returned (.string ⟨(markT t).toArray⟩) ∧ Below w.heap.size w w' := by
 have hb1 := (Below.refl w.heap.size w).alloc (Nat.le_refl _) (.cells #[.int .i64 kind, .int .i64 n, .string s, .slice A m c] 139)
 have hbx := Blk.new w 139 #[.int .i64 kind, .int .i64 n, .string s, .slice A m c]
 have cp := Lib.hid (rputm_walk t kind n s A m c _ (ht.below hb1))
 have HB1 := Lib.hid hb1
 have HBX := Lib.hid hbx
 have hle := put_le t
 have hel := B64.enc_le (putT t)
 have HM : Hid (markT t = if (putT t).length = 0 then [] else [126] ++ B64.enc (putT t) ++ [126]) := rfl
 generalize putT t = b at cp hle hel HM
 clear hb1
 go_enter Tryz.func89, Tryz.ntmps89
 go_wp2_with (refine wpList_load_at rfl 139 _ rfl ⟨w.heap.size, 0, none⟩ rfl [.int .i64 kind, .int .i64 n, .string s, .slice A m c] _ (blk_cells hbx) Tryz.underlying139 rfl term_size ?_)
 refine cp.out.mono ?_
 rintro _ w1 ⟨v, rfl, hown, hb2⟩
 obtain ⟨A1, c1, rfl, hc1, hr1⟩ := own_reads hown (Nat.le_refl _)
 have HB2 := Lib.hid (below_next HB1.out hb2)
 by_cases h0 : b.length = 0
 ·
  have hz : ((b.length : Int) == 0) = true := by rw [beq_iff_eq]; omega
  have hv : Hid (markT t = []) := by show _ = _; rw [HM.out, if_pos h0]
  clear hown hb2 cp hr1
  go_wp2_with fail
  go_ret
  rw [hv.out]
  exact ⟨rfl, HB2.out⟩
 ·
  have hz : ((b.length : Int) == 0) = false := by rw [beq_eq_false_iff_ne]; omega
  have hv : Hid (markT t = [126] ++ B64.enc b ++ [126]) := by show _ = _; rw [HM.out, if_neg h0]
  have ce := Lib.hid (renc_walk A1 b.length c1 b w1 hr1 (by omega))
  have hadd := fun w => run_string_add_lists (P := Tryz.prog) w [126] (B64.enc b) (by decide) (by omega)
  have hadd2 := fun w => run_string_add_lists (P := Tryz.prog) w ([126] ++ B64.enc b) [126] (by simp; omega) (by decide)
  clear hown hb2 cp hr1 HM
  go_wp2_with fail
  refine ce.out.mono ?_
  rintro _ w2 ⟨rfl, hb3⟩
  have HB3 := Lib.hid (below_next HB2.out hb3)
  clear hb3 ce
  go_wp2_with fail
  go_ret
  rw [hv.out]
  exact ⟨rfl, HB3.out⟩
theorem rinner_walk (s : ByteArray) (l : List UInt8) (hs : s.data.toList = l) (w : World) (hm : s.size ≤ 1000000) :
  Calls Tryz.prog 122 #[.string s] w (ReadU (innerO l) w) := by
 have hb1 := (Below.refl w.heap.size w).alloc (Nat.le_refl _) (.cells #[.int .i64 0, .int .i64 0, .string ⟨#[]⟩, .slice none 0 0] 139)
 have HBR := Lib.hid (Blk.new w 139 #[.int .i64 0, .int .i64 0, .string ⟨#[]⟩, .slice none 0 0])
 have HB1 := Lib.hid hb1
 have hsz : l.length = s.size := by rw [← hs, Lib.size_eq]
 have cd := rdec_walk s l hs (w.alloc (.cells #[.int .i64 0, .int .i64 0, .string ⟨#[]⟩, .slice none 0 0] 139)) hm
 cases hD : B64.dec l with
 | none =>
  have hv : Hid (innerO l = none) := by show _ = _; rw [innerO, hD]
  have cd2 : Calls Tryz.prog 130 #[.string s] (w.alloc (.cells #[.int .i64 0, .int .i64 0, .string ⟨#[]⟩, .slice none 0 0] 139)) fun e w' => e = .returned (.tuple #[.slice none 0 0, .int .i64 3]) ∧ Below (w.alloc (.cells #[.int .i64 0, .int .i64 0, .string ⟨#[]⟩, .slice none 0 0] 139)).heap.size (w.alloc (.cells #[.int .i64 0, .int .i64 0, .string ⟨#[]⟩, .slice none 0 0] 139)) w' := by
   refine cd.mono ?_
   rintro e w' ⟨hb, ⟨b, v, h, _⟩ | ⟨_, he⟩⟩
   ·
    rw [B64.rdec_eq] at h
    rw [hD] at h; cases h
   ·
    exact ⟨he, hb⟩
  have CD := Lib.hid cd2
  clear cd cd2 hD hb1
  go_enter Tryz.func122, Tryz.ntmps122
  go_wp2_with fail
  refine CD.out.mono ?_
  rintro _ w1 ⟨rfl, hb2⟩
  have hbq := HBR.out.below hb2 (by simp)
  have HBW := Lib.hid (below_next HB1.out hb2)
  clear hb2 CD
  go_wp2_with (refine wpList_store_blk rfl 139 _ _ rfl w.heap.size _ #[.int .i64 0, .int .i64 0, .string ⟨#[]⟩, .slice none 0 0] _ rfl rfl hbq rfl term_size (ones4 _ _ _ _ _ _) ?_)
  refine bodyPost_ret (results_c_t Tryz.results122 _ _ w.heap.size _ _ _ _ rfl hbq.setRow) rfl ?_
  rw [hv.out]
  exact ⟨0, 0, ⟨#[]⟩, none, 0, 0, rfl, tm_leaf _ _ _ _ _, below_setRow HBW.out (Nat.le_refl _) _⟩
 | some b =>
  have hbl : b.length ≤ 1000000 := by
   have h1 := B64.enc_dec _ l b (Nat.le_refl _) hD
   have h2 := B64.enc_length b
   rw [h1] at h2
   omega
  have cd2 : Calls Tryz.prog 130 #[.string s] (w.alloc (.cells #[.int .i64 0, .int .i64 0, .string ⟨#[]⟩, .slice none 0 0] 139)) fun e w' => ∃ v, e = .returned (.tuple #[v, .int .i64 0]) ∧ w'.ownsRow (w.alloc (.cells #[.int .i64 0, .int .i64 0, .string ⟨#[]⟩, .slice none 0 0] 139)).heap.size 5 1 v b.length (Lib.byteCells b) ∧ Below (w.alloc (.cells #[.int .i64 0, .int .i64 0, .string ⟨#[]⟩, .slice none 0 0] 139)).heap.size (w.alloc (.cells #[.int .i64 0, .int .i64 0, .string ⟨#[]⟩, .slice none 0 0] 139)) w' := by
   refine cd.mono ?_
   rintro e w' ⟨hb, ⟨b', v, h, he, ho⟩ | ⟨h, _⟩⟩
   ·
    rw [B64.rdec_eq] at h
    rw [hD] at h
    injection h with h
    subst h
    exact ⟨v, he, ho, hb⟩
   ·
    rw [B64.rdec_eq] at h
    rw [hD] at h; cases h
  have CD := Lib.hid cd2
  have hv : Hid (innerO l = match oneT b with | .error _ => none | .ok t => some t) := by show _ = _; rw [innerO, hD]
  clear cd cd2 hD hb1
  go_enter Tryz.func122, Tryz.ntmps122
  go_wp2_with fail
  refine CD.out.mono ?_
  rintro _ w1 ⟨v, rfl, hown, hb2⟩
  obtain ⟨A1, c1, rfl, hc1, hr1⟩ := own_reads hown (Nat.le_refl _)
  have co := rone_walk b A1 c1 w1 hbl hc1 (own_cap hown) hr1
  have hbq := HBR.out.below hb2 (by simp)
  have HBW := Lib.hid (below_next HB1.out hb2)
  clear hb2 CD hown hr1
  cases hO : oneT b with
  | error k =>
   have hk := oneT_err hO
   have hk0 : (k == 0) = false := by rw [beq_eq_false_iff_ne]; omega
   rw [hO] at co hv
   have CO := Lib.hid co
   clear co hO hk
   go_wp2_with fail
   with_reducible refine CO.out.mono ?_
   rintro _ w2 ⟨rfl, hb3⟩
   have HB3 := Lib.hid ((below_next HBW.out hb3).alloc (below_next HBW.out hb3).size (.cells #[.int .i64 0, .int .i64 0, .string ⟨#[]⟩, .slice none 0 0] 139))
   have hbq2 := (hbq.below hb3 hbq.lt).alloc (.cells #[.int .i64 0, .int .i64 0, .string ⟨#[]⟩, .slice none 0 0] 139)
   have hbt := Blk.new w2 139 #[.int .i64 0, .int .i64 0, .string ⟨#[]⟩, .slice none 0 0]
   clear hb3 CO hbq
   go_wp2_with (first
    | (refine wpList_store_fresh w2 rfl 139 _ _ rfl _ #[.int .i64 0, .int .i64 0, .string ⟨#[]⟩, .slice none 0 0] _ rfl rfl rfl term_size (ones4 _ _ _ _ _ _) ?_)
    | (refine wpList_load_at rfl 139 _ rfl ⟨w2.heap.size, 0, none⟩ rfl [.int .i64 0, .int .i64 0, .string ⟨#[]⟩, .slice none 0 0] _ (blk_cells hbt) Tryz.underlying139 rfl term_size ?_)
    | (refine wpList_store_blk rfl 139 _ _ rfl w.heap.size _ #[.int .i64 0, .int .i64 0, .string ⟨#[]⟩, .slice none 0 0] _ rfl rfl hbq2 rfl term_size (ones4 _ _ _ _ _ _) ?_))
   refine bodyPost_ret (results_c_t Tryz.results122 _ _ w.heap.size _ _ _ _ rfl hbq2.setRow) rfl ?_
   rw [hv.out]
   exact ⟨0, 0, ⟨#[]⟩, none, 0, 0, rfl, tm_leaf _ _ _ _ _, below_setRow HB3.out (Nat.le_refl _) _⟩
  | ok t =>
   rw [hO] at co hv
   have CO := Lib.hid co
   clear co hO
   go_wp2_with fail
   with_reducible refine CO.out.mono ?_
   rintro _ w2 ⟨kd, nm, s2, A2, m2, c2, rfl, htv, hb3⟩
   have HB3 := Lib.hid ((below_next HBW.out hb3).alloc (below_next HBW.out hb3).size (.cells #[.int .i64 kd, .int .i64 nm, .string s2, .slice A2 m2 c2] 139))
   have hbq2 := (hbq.below hb3 hbq.lt).alloc (.cells #[.int .i64 kd, .int .i64 nm, .string s2, .slice A2 m2 c2] 139)
   have hbt := Blk.new w2 139 #[.int .i64 kd, .int .i64 nm, .string s2, .slice A2 m2 c2]
   have hlt : w.heap.size < w1.heap.size := hbq.lt
   have HTW := Lib.hid (htv.grown (only_alloc (only_refl w2 none) (.cells #[.int .i64 kd, .int .i64 nm, .string s2, .slice A2 m2 c2] 139)) (fun q e => by cases e))
   clear hb3 CO hbq htv
   go_wp2_with (first
    | (refine wpList_store_fresh w2 rfl 139 _ _ rfl _ #[.int .i64 kd, .int .i64 nm, .string s2, .slice A2 m2 c2] _ rfl rfl rfl term_size (ones4 _ _ _ _ _ _) ?_)
    | (refine wpList_load_at rfl 139 _ rfl ⟨w2.heap.size, 0, none⟩ rfl [.int .i64 kd, .int .i64 nm, .string s2, .slice A2 m2 c2] _ (blk_cells hbt) Tryz.underlying139 rfl term_size ?_)
    | (refine wpList_store_blk rfl 139 _ _ rfl w.heap.size _ #[.int .i64 kd, .int .i64 nm, .string s2, .slice A2 m2 c2] _ rfl rfl hbq2 rfl term_size (ones4 _ _ _ _ _ _) ?_))
   refine bodyPost_ret (results_c_t Tryz.results122 _ _ w.heap.size _ _ _ _ rfl hbq2.setRow) rfl ?_
   rw [hv.out]
   exact ⟨kd, nm, s2, A2, m2, c2, rfl, (HTW.out.grown (setRow_only _ w.heap.size _) (fun q e => by injection e with e; omega)).low (by omega), below_setRow HB3.out (Nat.le_refl _) _⟩
end
section
open Go.RowKit
theorem pre_one (l : List UInt8) (h : 1 ≤ l.length) : [126].isPrefixOf l = (((l.getD 0 0).toNat : Int) == 126) := by
 cases l with
 | nil => simp at h
 | cons c l =>
  rw [Bool.eq_iff_iff]
  simp [List.isPrefixOf]
  constructor
  ·
   intro e; subst e; rfl
  ·
   intro e; exact (UInt8.toNat_inj.1 (by simp; omega)).symm
theorem suf_one (l : List UInt8) (h : 1 ≤ l.length) : [126].isSuffixOf l = (((l.getD (l.length - 1) 0).toNat : Int) == 126) := by
 rw [List.isSuffixOf]
 have := pre_one l.reverse (by simpa using h)
 rw [List.reverse_singleton, this]
 congr 3
 rw [List.getD, List.getD, List.getElem?_reverse (by omega)]
 simp
theorem str_at9 {s : ByteArray} {l : List UInt8} (hs : s.data.toList = l) {k : Nat} (hk : k < s.size) : (s[k]'hk).toNat = (l.getD k 0).toNat := by
 subst hs
 rw [List.getD_eq_getElem?_getD, List.getElem?_eq_getElem (by simpa using hk)]
 rfl
theorem mid_list (s : ByteArray) (l : List UInt8) (hs : s.data.toList = l) : (s.extract 1 (s.size - 1)).data.toList = midL l := by
 show _ = (l.drop 1).take (l.length - 2)
 have hsz : l.length = s.size := by rw [← hs, Lib.size_eq]
 rw [Lib.extract_data, hs]
 simp [List.take_drop, hsz]
 congr 1
 omega
theorem rread_walk (s : ByteArray) (l : List UInt8) (hs : s.data.toList = l) (w : World) (hm : s.size ≤ 1000000) :
  Calls Tryz.prog 110 #[.string s] w (ReadU (readO l) w) := by
 have hb1 := (Below.refl w.heap.size w).alloc (Nat.le_refl _) (.cells #[.int .i64 0, .int .i64 0, .string ⟨#[]⟩, .slice none 0 0] 139)
 have hbq := Blk.new w 139 #[.int .i64 0, .int .i64 0, .string ⟨#[]⟩, .slice none 0 0]
 have HB1 := Lib.hid hb1
 have hsz : l.length = s.size := by rw [← hs, Lib.size_eq]
 by_cases h2 : s.size < 2
 ·
  have hv : Hid (readO l = none) := by show _ = _; rw [readO, sideB, decide_eq_true (by omega)]; rfl
  have hd : decide ((s.size : Int) < 2) = true := by simp; omega
  clear hb1 hsz
  go_enter Tryz.func110, Tryz.ntmps110
  go_wp2_with (refine wpList_store_blk rfl 139 _ _ rfl w.heap.size _ #[.int .i64 0, .int .i64 0, .string ⟨#[]⟩, .slice none 0 0] _ rfl rfl hbq rfl term_size (ones4 _ _ _ _ _ _) ?_)
  refine bodyPost_ret (results_c_t Tryz.results110 _ _ w.heap.size _ _ _ _ rfl hbq.setRow) rfl ?_
  rw [hv.out]
  exact ⟨0, 0, ⟨#[]⟩, none, 0, 0, rfl, tm_leaf _ _ _ _ _, below_setRow HB1.out (Nat.le_refl _) _⟩
 have hd : decide ((s.size : Int) < 2) = false := by simp; omega
 have h2' : 2 ≤ s.size := by omega
 have hd3 : decide (l.length < 2) = false := by simp; omega
 obtain ⟨b0, eb0⟩ : ∃ b, (s[0]'(Nat.lt_of_lt_of_le (by decide) h2')).toNat = b := ⟨_, rfl⟩
 obtain ⟨b1, eb1⟩ : ∃ b, (s[s.size - 1]'(Nat.sub_lt (Nat.lt_of_lt_of_le (by decide) h2') (by decide))).toNat = b := ⟨_, rfl⟩
 have q0 := pre_one l (by omega)
 rw [← str_at9 hs (k := 0) (by omega), eb0] at q0
 have q1 := suf_one l (by omega)
 rw [hsz, ← str_at9 hs (k := s.size - 1) (by omega), eb1] at q1
 have Q0 := Lib.hid q0
 have Q1 := Lib.hid q1
 clear q0 q1
 cases e1 : [126].isPrefixOf l
 ·
  have hv : Hid (readO l = none) := by show _ = _; rw [readO, sideB, e1, hd3]; rfl
  have f1 : ((b0 : Int) == 126) = [126].isPrefixOf l := Q0.out.symm
  rw [e1] at f1
  replace f1 : ((b0 : Int) != 126) = !false := by rw [bne, f1]
  clear e1
  clear hb1 hsz hd3
  go_enter Tryz.func110, Tryz.ntmps110
  go_wp2_with (refine wpList_store_blk rfl 139 _ _ rfl w.heap.size _ #[.int .i64 0, .int .i64 0, .string ⟨#[]⟩, .slice none 0 0] _ rfl rfl hbq rfl term_size (ones4 _ _ _ _ _ _) ?_)
  refine bodyPost_ret (results_c_t Tryz.results110 _ _ w.heap.size _ _ _ _ rfl hbq.setRow) rfl ?_
  rw [hv.out]
  exact ⟨0, 0, ⟨#[]⟩, none, 0, 0, rfl, tm_leaf _ _ _ _ _, below_setRow HB1.out (Nat.le_refl _) _⟩
 ·
  cases e2 : [126].isSuffixOf l
  ·
   have hv : Hid (readO l = none) := by show _ = _; rw [readO, sideB, e1, e2, hd3]; rfl
   have f1 : ((b0 : Int) == 126) = [126].isPrefixOf l := Q0.out.symm
   rw [e1] at f1
   replace f1 : ((b0 : Int) != 126) = !true := by rw [bne, f1]
   clear e1
   have f2 : ((b1 : Int) == 126) = [126].isSuffixOf l := Q1.out.symm
   rw [e2] at f2
   replace f2 : ((b1 : Int) != 126) = !false := by rw [bne, f2]
   clear e2
   clear hb1 hsz hd3
   go_enter Tryz.func110, Tryz.ntmps110
   go_wp2_with (refine wpList_store_blk rfl 139 _ _ rfl w.heap.size _ #[.int .i64 0, .int .i64 0, .string ⟨#[]⟩, .slice none 0 0] _ rfl rfl hbq rfl term_size (ones4 _ _ _ _ _ _) ?_)
   refine bodyPost_ret (results_c_t Tryz.results110 _ _ w.heap.size _ _ _ _ rfl hbq.setRow) rfl ?_
   rw [hv.out]
   exact ⟨0, 0, ⟨#[]⟩, none, 0, 0, rfl, tm_leaf _ _ _ _ _, below_setRow HB1.out (Nat.le_refl _) _⟩
  ·
   have hv : Hid (readO l = innerO (midL l)) := by show _ = _; rw [readO, sideB, e1, e2, hd3]; rfl
   have f1 : ((b0 : Int) == 126) = [126].isPrefixOf l := Q0.out.symm
   rw [e1] at f1
   replace f1 : ((b0 : Int) != 126) = !true := by rw [bne, f1]
   clear e1
   have f2 : ((b1 : Int) == 126) = [126].isSuffixOf l := Q1.out.symm
   rw [e2] at f2
   replace f2 : ((b1 : Int) != 126) = !true := by rw [bne, f2]
   clear e2
   have hml := mid_list s l hs
   have hms : (s.extract 1 (s.size - 1)).size ≤ 1000000 := by rw [Lib.size_eq, hml, midL, List.length_take]; simp; omega
   have ci := Lib.hid (rinner_walk _ _ hml (w.alloc (.cells #[.int .i64 0, .int .i64 0, .string ⟨#[]⟩, .slice none 0 0] 139)) hms)
   have hbqh := Lib.hid hbq
   clear hb1 hsz hd3 hml hms
   go_enter Tryz.func110, Tryz.ntmps110
   go_wp2_with fail
   with_reducible refine ci.out.mono ?_
   rintro _ w2 ⟨kd, nm, s2, A2, m2, c2, rfl, htv, hb3⟩
   have HB3 := Lib.hid (below_next HB1.out hb3)
   have hbq2 := hbq.below hb3 (by simp)
   have hz9 : (w.alloc (.cells #[.int .i64 0, .int .i64 0, .string ⟨#[]⟩, .slice none 0 0] 139)).heap.size = w.heap.size + 1 := by simp
   rw [hz9] at htv
   have HTV := Lib.hid (TmV.low (lo' := w.heap.size) (htv.grown (setRow_only w2 w.heap.size #[.int .i64 kd, .int .i64 nm, .string s2, .slice A2 m2 c2]) (fun q e => by injection e with e; omega)) (Nat.le_succ _))
   clear hb3 ci htv hz9
   go_wp2_with (refine wpList_store_blk rfl 139 _ _ rfl w.heap.size _ #[.int .i64 kd, .int .i64 nm, .string s2, .slice A2 m2 c2] _ rfl rfl hbq2 rfl term_size (ones4 _ _ _ _ _ _) ?_)
   refine bodyPost_ret (results_c_t Tryz.results110 _ _ w.heap.size _ _ _ _ rfl hbq2.setRow) rfl ?_
   rw [hv.out]
   exact ⟨kd, nm, s2, A2, m2, c2, rfl, HTV.out, below_setRow HB3.out (Nat.le_refl _) _⟩
end
end K9
end Go.Proofs.YtnhjgocdepbajaaGreat
