/- own.State: a state in memory of its own. Conditions: rows of sizes that a machine bears. -/
import Derived.Test.YtnhjgocdepbajaaGreatZy
import Derived.Test.YtnhjgocdepbajaaGreatA4
set_option linter.unusedVariables false
set_option linter.unusedSimpArgs false
set_option maxRecDepth 20000
namespace Go.Proofs.YtnhjgocdepbajaaGreat
open Go.RowKit S19 C17 R
theorem Fr.more {w0 w w' : World} {bs : List Bx} {D : World → Prop} (h : Fr w0 w bs D) (hb : Below w.heap.size w w') {g : Nat} {t : TypeId} {cs : Array Value} (hg : w.heap.size ≤ g) (hn : Blk w' g t cs) : Fr w0 w' (bs ++ [(g, t, cs)]) D := by
 have hc := h.call hb
 refine ⟨hc.below, fun i x e => ?_, fun i j x y ei ej hne => ?_, h.kp.step hb.size (fun k hl _ => hb.block k hl) (fun x' hx' => ?_)⟩
 ·
  rw [List.getElem?_append] at e
  split at e
  ·
   exact hc.blk i x e
  ·
   rw [List.getElem?_singleton] at e
   split at e
   ·
    injection e with e
    subst e
    exact ⟨Nat.le_trans h.below.size hg, hn⟩
   ·
    simp at e
 ·
  have hlt : ∀ i x, (bs ++ [(g, t, cs)])[i]? = some x → (i < bs.length ∧ bs[i]? = some x) ∨ (i = bs.length ∧ x.1 = g) := fun i x e => by
   rw [List.getElem?_append] at e
   split at e
   ·
    rename_i hl; exact .inl ⟨hl, e⟩
   ·
    rename_i hl
    rw [List.getElem?_singleton] at e
    split at e
    ·
     injection e with e; subst e; exact .inr ⟨by omega, rfl⟩
    ·
     simp at e
  rcases hlt i x ei with ⟨_, e1⟩ | ⟨h1, e1⟩ <;> rcases hlt j y ej with ⟨_, e2⟩ | ⟨h2, e2⟩
  ·
   exact h.ne i j x y e1 e2 hne
  ·
   have := (h.blk i x e1).2.lt; omega
  ·
   have := (h.blk j y e2).2.lt; omega
  ·
   omega
 ·
  rcases List.mem_append.1 hx' with hx | hx
  ·
   exact .inl ⟨x', hx, rfl⟩
  ·
   simp at hx; subst hx; exact .inr hg
def NewTx (w0 W : World) (x : Cl) : Prop := x.rc = x.red.length ∧ ∃ g : Nat, x.ra = some ⟨g, 0, none⟩ ∧ w0.heap.size ≤ g ∧ Blk W g 9 (strVs x.red).toArray
theorem kp_tx {w0 w : World} {bs : List Bx} {x : Cl} (h : NewTx w0 w x) (hb : ∀ g, x.ra = some ⟨g, 0, none⟩ → ∀ y ∈ bs, y.1 ≠ g) : Kp w bs (fun W => NewTx w0 W x) := by
 obtain ⟨hc, g, hg, hl, hk⟩ := h
 exact fun w' hs hk' => ⟨hc, g, hg, hl, (hk' g hk.lt (hb g hg)).trans hk⟩
instance : OneIs 45 := ⟨⟨_, Tryz.underlying45, rfl⟩, by kernel_rfl⟩
theorem cl_part {L R : List Cl} {k : Nat} {c : Cl} (hL : L.length = k) (hR : R[0]? = some c) : ∀ j u, c.cells[j]? = some u → (cCells (L ++ R)).toArray[k * 4 + j]? = some u := by
 intro j u hu
 have hj : j < 4 := (List.getElem?_eq_some_iff.1 hu).1
 have hk : (L ++ R)[k]? = some c := by rw [List.getElem?_append_right (by omega), hL, Nat.sub_self]; exact hR
 have := cCells_at _ k c hk j hj
 rw [List.getElem?_toArray, show k * 4 + j = 4 * k + j by omega, this, hu]
theorem cl_set {L R : List Cl} {k : Nat} {c : Cl} {A : Option Addr} {n : Nat} (hL : L.length = k) : (cCells (L ++ c :: R)).toArray.setIfInBounds (k * 4 + 2) (.slice A c.red.length n) = (cCells ((L ++ [{ c with ra := A, rc := n }]) ++ R)).toArray := by
 have e0 : cCells (L ++ c :: R) = cCells L ++ ([strV c.id, .int .i64 c.sec, .slice c.ra c.red.length c.rc, strV c.sc] ++ cCells R) := by rw [cCells_append]; rfl
 have e1 : cCells ((L ++ [{ c with ra := A, rc := n }]) ++ R) = cCells L ++ ([strV c.id, .int .i64 c.sec, .slice A c.red.length n, strV c.sc] ++ cCells R) := by rw [List.append_assoc, cCells_append]; rfl
 have hl : (cCells L).length = k * 4 := by rw [cCells_len]; omega
 rw [e0, e1, List.setIfInBounds_toArray, List.set_append_right _ _ (by omega), show k * 4 + 2 - (cCells L).length = 2 by omega]
 rfl
theorem drop_at {cl : List Cl} {k : Nat} {c : Cl} (h : cl[k]? = some c) : cl.drop k = c :: cl.drop (k + 1) := by
 obtain ⟨hlt, e⟩ := List.getElem?_eq_some_iff.1 h
 rw [List.drop_eq_getElem_cons hlt, e]
section
variable (b : Bs) (rs : List Rc) (cl : List Cl) (CA : Option Addr) (cc : Nat) (UA : Option Addr) (uc : Nat) (RA : Option Addr) (rc : Nat) (w : World) (hst : StH b rs w cl CA cc UA uc RA rc)
 (hcl : cl.length ≤ 1000000) (hul : b.us.length ≤ 1000000) (hrl : rs.length ≤ 1000000) (htx : ∀ c ∈ cl, c.red.length ≤ 100000)
include hst hcl hul hrl htx
set_option maxHeartbeats 8000000 in
theorem state_walk :
  Calls Tryz.prog 48 #[.agg (stA b.nm b.key CA cl.length cc UA b.us.length uc RA rs.length rc)] w fun e w' => ∃ v, e = .returned v ∧ NewSt b rs w w' v ∧ Below w.heap.size w w' := by
 have hF := Fr.nil w
 have HS := Lib.hid (fun W (hb : Below w.heap.size w W) => hst.below hb)
 have c1 := Lib.hid (fun W (h : StH b rs W cl CA cc UA uc RA rc) => listC_walk cl.length (cCells cl) CA cc W h.cls.2.1 (cCells_ones cl) hcl)
 have c2 := Lib.hid (fun W (h : StH b rs W cl CA cc UA uc RA rc) => listU_walk b.us.length (uCells b.us) UA uc W h.us.2 (user_ones b.us) hul)
 have c3 := Lib.hid (fun W (h : StH b rs W cl CA cc UA uc RA rc) => listR_walk rs.length (recCells rs) RA rc W h.rs.2.2 (recs_ones rs) hrl)
 have c4 := Lib.hid (fun W (h : StH b rs W cl CA cc UA uc RA rc) (c : Cl) (hc : c ∈ cl) => texts_walk c.red c.ra c.rc W.heap.size W (h.cls.2.2 c hc).2 (htx c hc) (Nat.le_refl _))
 have hpl := Lib.hid hst.pl
 clear hst
 go_enter Tryz.func48, Tryz.ntmps48
 go_wp2_with (first
  | go_skip
  | (refine aA rfl rfl hF ?_; clear hF; intro gg ww hF; simp only [nf] at hF)
  | (refine aB rfl rfl hF rfl ?_; clear hF; intro gg ww hF; simp only [nf] at hF)
  | (refine iL (t := 3) hF rfl rfl fun ho hx hb => ?_; refine aC (v := .int _ _) ho hb hx hF rfl rfl ?_; clear ho hx hb)
  | (refine iL hF rfl rfl fun ho hx hb => ?_; (first | refine aL ho hb hx hF rfl rfl ?_ | refine aC (v := .slice _ _ _) ho hb hx hF rfl rfl ?_ | refine aC (v := .string _) ho hb hx hF rfl rfl ?_ | refine aC (v := .bool _) ho hb hx hF rfl rfl ?_); clear ho hx hb)
  | (refine iS hF rfl rfl fun ho hx hb => ?_; (first | refine aS ho hb hx hF rfl rfl rfl rfl ?_ | refine aT (v := .int _ _) ho hb hx hF rfl rfl rfl rfl ?_ | refine aT (v := .slice _ _ _) ho hb hx hF rfl rfl rfl rfl ?_ | refine aT (v := .bool _) ho hb hx hF rfl rfl rfl rfl ?_); clear ho hx hb hF; intro ww hF; simp only [nf] at hF)
  )
 refine rgw [10] [_] hF (.cons_cons _ (.cons _ .slnil)) fun hF => ?_
 refine tkf 0 rfl ?_
 try simp only [nrm, Act.put]
 refine tkc 1 0 [10] (v := .slice _ _ _) rfl rfl rfl rfl rfl ?_
 try simp only [nrm, Act.put]
 refine tkf 3 rfl ?_
 try simp only [nrm, Act.put]
 refine tkc 4 0 [10] (v := .slice _ _ _) rfl rfl rfl rfl rfl ?_
 try simp only [nrm, Act.put]
 refine tkf 6 rfl ?_
 try simp only [nrm, Act.put]
 refine tkc 7 0 [10] (v := .slice _ _ _) rfl rfl rfl rfl rfl ?_
 try simp only [nrm, Act.put]
 refine rdw 2 rfl fun K hK => ?_
 go_simp
 go_at_call 74
 with_reducible refine (c1.out _ (HS.out _ hF.below)).mono ?_
 rintro _ ww ⟨g1, rfl, hg1, hb1, hbn⟩
 replace hF := hF.more hbn hg1 hb1
 simp only [nf] at hF
 refine hK.out _ _ (by (first | exact HoldA.past rfl | exact HoldA.of (by assumption) _ | exact HoldA.of (Fr.sub hF (by repeat (first | exact List.Sublist.slnil | apply List.Sublist.cons_cons | apply List.Sublist.cons))) _)) (fun _ => ?_)
 clear hK K; try clear hbn
 try simp only [nrm, Act.put]
 clear hb1
 refine tkf 9 rfl ?_
 try simp only [nrm, Act.put]
 refine rdw 5 rfl fun K hK => ?_
 go_simp
 go_at_call 75
 with_reducible refine (c2.out _ (HS.out _ hF.below)).mono ?_
 rintro _ ww ⟨g2, rfl, hg2, hb2, hbn⟩
 replace hF := hF.more hbn hg2 hb2
 simp only [nf] at hF
 refine hK.out _ _ (by (first | exact HoldA.past rfl | exact HoldA.of (by assumption) _ | exact HoldA.of (Fr.sub hF (by repeat (first | exact List.Sublist.slnil | apply List.Sublist.cons_cons | apply List.Sublist.cons))) _)) (fun _ => ?_)
 clear hK K; try clear hbn
 try simp only [nrm, Act.put]
 clear hb2
 refine rdw 8 rfl fun K hK => ?_
 go_simp
 go_at_call 76
 with_reducible refine (c3.out _ (HS.out _ hF.below)).mono ?_
 rintro _ ww ⟨g3, rfl, hg3, hb3, hbn⟩
 replace hF := hF.more hbn hg3 hb3
 simp only [nf] at hF
 refine hK.out _ _ (by (first | exact HoldA.past rfl | exact HoldA.of (by assumption) _ | exact HoldA.of (Fr.sub hF (by repeat (first | exact List.Sublist.slnil | apply List.Sublist.cons_cons | apply List.Sublist.cons))) _)) (fun _ => ?_)
 clear hK K; try clear hbn
 try simp only [nrm, Act.put]
 clear hb3
 refine stc 10 0 (v := .slice _ _ _) hF rfl rfl rfl rfl rfl rfl rfl rfl ?_
 clear hF; intro ww hF; simp only [nf] at hF
 try simp only [nrm, Act.put]
 refine tkf 11 rfl ?_
 try simp only [nrm, Act.put]
 refine stc 12 0 (v := .slice _ _ _) hF rfl rfl rfl rfl rfl rfl rfl rfl ?_
 clear hF; intro ww hF; simp only [nf] at hF
 try simp only [nrm, Act.put]
 refine tkf 13 rfl ?_
 try simp only [nrm, Act.put]
 refine stc 14 0 (v := .slice _ _ _) hF rfl rfl rfl rfl rfl rfl rfl rfl ?_
 clear hF; intro ww hF; simp only [nf] at hF
 try simp only [nrm, Act.put]
 refine dnw ?_
 clear hg1 hg2 hg3
 go_wp2_with (first
  | go_skip
  | (refine aA rfl rfl hF ?_; clear hF; intro gg ww hF; simp only [nf] at hF)
  | (refine aB rfl rfl hF rfl ?_; clear hF; intro gg ww hF; simp only [nf] at hF)
  | (refine iL (t := 3) hF rfl rfl fun ho hx hb => ?_; refine aC (v := .int _ _) ho hb hx hF rfl rfl ?_; clear ho hx hb)
  | (refine iL hF rfl rfl fun ho hx hb => ?_; (first | refine aL ho hb hx hF rfl rfl ?_ | refine aC (v := .slice _ _ _) ho hb hx hF rfl rfl ?_ | refine aC (v := .string _) ho hb hx hF rfl rfl ?_ | refine aC (v := .bool _) ho hb hx hF rfl rfl ?_); clear ho hx hb)
  | (refine iS hF rfl rfl fun ho hx hb => ?_; (first | refine aS ho hb hx hF rfl rfl rfl rfl ?_ | refine aT (v := .int _ _) ho hb hx hF rfl rfl rfl rfl ?_ | refine aT (v := .slice _ _ _) ho hb hx hF rfl rfl rfl rfl ?_ | refine aT (v := .bool _) ho hb hx hF rfl rfl rfl rfl ?_); clear ho hx hb hF; intro ww hF; simp only [nf] at hF)
  )
 obtain ⟨bs0, hbs0, hF0⟩ := hF.named
 have HB0 := Lib.hid hbs0
 clear hbs0 hF
 go_loopw [20] (fun iv wr => ∃ (k : Nat) (L : List Cl), k ≤ cl.length ∧ iv = .int .i64 k ∧ Hid (L.length = k ∧ L.map clP = (cl.take k).map clP) ∧ Fr w wr (bs0.set 2 (g1, 67, (cCells (L ++ cl.drop k)).toArray)) (fun W => ∀ x ∈ L, NewTx w W x)) (fun iv _ => cl.length - (intOf iv).toNat)
 case atStart =>
  refine ⟨0, [], by omega, rfl, ⟨rfl, rfl⟩, ?_⟩
  have hbs0 := HB0.out
  subst hbs0
  simp only [nf, List.nil_append, List.drop_zero]
  exact hF0.weak fun _ _ x hx => by cases hx
 case round =>
  clear hF0
  obtain ⟨k, L, hk, rfl, hL, hF⟩ := hrel
  have hbs0 := HB0.out
  subst hbs0
  simp only [nf] at hF
  by_cases hlt : k < cl.length
  ·
   obtain ⟨c, hck⟩ : ∃ c, cl[k]? = some c := ⟨_, List.getElem?_eq_getElem hlt⟩
   have hcm : c ∈ cl := List.mem_of_getElem? hck
   have hlt2 : (k : Int) < (cl.length : Int) := by omega
   have hpt := cl_part hL.out.1 (show (cl.drop k)[0]? = some c by rw [drop_at hck]; rfl)
   have hse := fun A n => cl_set (L := L) (R := cl.drop (k + 1)) (k := k) (c := c) (A := A) (n := n) hL.out.1
   rw [← drop_at hck] at hse
   have hsz : (cCells (L ++ cl.drop k)).toArray.size = cl.length * 4 := by
    rw [List.size_toArray, cCells_len, List.length_append, List.length_drop]
    have := hL.out.1
    omega
   generalize (cCells (L ++ cl.drop k)).toArray = mc at hF hpt hse hsz
   have Hpt := Lib.hid hpt
   have Hse := Lib.hid hse
   have Hsz := Lib.hid hsz
   have HCK := Lib.hid hck
   clear hpt hse hsz hck
   have hwk : IntKind.i64.wrap (k : Int) = (k : Int) := by rw [IntKind.wrap_i64]; omega
   go_wp2_with (first
    | go_skip
    | (refine aA rfl rfl hF ?_; clear hF; intro gg ww hF; simp only [nf] at hF)
    | (refine aB rfl rfl hF rfl ?_; clear hF; intro gg ww hF; simp only [nf] at hF)
    | (refine iL (t := 3) hF rfl rfl fun ho hx hb => ?_; refine aC (v := .int _ _) ho hb hx hF rfl rfl ?_; clear ho hx hb)
    | (refine iL hF rfl rfl fun ho hx hb => ?_; (first | refine aL ho hb hx hF rfl rfl ?_ | refine aC (v := .slice _ _ _) ho hb hx hF rfl rfl ?_ | refine aC (v := .string _) ho hb hx hF rfl rfl ?_ | refine aC (v := .bool _) ho hb hx hF rfl rfl ?_); clear ho hx hb)
    | (refine iS hF rfl rfl fun ho hx hb => ?_; (first | refine aS ho hb hx hF rfl rfl rfl rfl ?_ | refine aT (v := .int _ _) ho hb hx hF rfl rfl rfl rfl ?_ | refine aT (v := .slice _ _ _) ho hb hx hF rfl rfl rfl rfl ?_ | refine aT (v := .bool _) ho hb hx hF rfl rfl rfl rfl ?_); clear ho hx hb hF; intro ww hF; simp only [nf] at hF)
    | (refine iL hF rfl rfl fun ho hx hb => ?_; refine aP [.string ⟨c.id.toArray⟩, .int .i64 c.sec, .slice c.ra c.red.length c.rc, .string ⟨c.sc.toArray⟩] ho hb hx hF rfl Hpt.out rfl ?_; clear ho hx hb)
    )
   refine rgw [8] [_, _, _] hF (.cons_cons _ (.cons _ (.cons_cons _ (.cons _ (.cons _ (.cons_cons _ .slnil)))))) fun hF => ?_
   refine tkf 0 rfl ?_
   try simp only [nrm, Act.put]
   refine tkc 1 0 [8] (v := .slice _ _ _) rfl rfl rfl rfl rfl ?_
   try simp only [nrm, Act.put]
   refine tkf 2 rfl ?_
   try simp only [nrm, Act.put]
   refine tkf 3 rfl ?_
   try simp only [nrm, Act.put]
   refine tkc 4 2 [8] (v := .slice _ _ _) rfl rfl rfl rfl rfl ?_
   try simp only [nrm, Act.put]
   have HK := Lib.hid (show decide (k * 4 + 2 < mc.size) = true by rw [Hsz.out, decide_eq_true_eq]; omega)
   refine rdw 5 rfl fun K hK => ?_
   go_simp
   go_at_call 77
   with_reducible refine (c4.out _ (HS.out _ hF.below) c hcm).mono ?_
   rintro _ ww ⟨g4, rfl, hg4, hb4, hbn⟩
   have hle := hF.below.size
   have hF0 := (hF.call hbn).sub (show List.Sublist [_, _, _] _ from .cons_cons _ (.cons _ (.cons_cons _ (.cons _ (.cons _ (.cons_cons _ .slnil))))))
   replace hF := (hF.call hbn).grow (kp_tx (w0 := w) (x := { c with ra := some ⟨g4, 0, none⟩, rc := c.red.length }) ⟨rfl, g4, rfl, by omega, hb4⟩ (fun g e y hy => by have := (hF.mem hy).2; simp only [Option.some.injEq, Addr.mk.injEq, and_true] at e; omega))
   refine hK.out _ _ (by (first | exact HoldA.past rfl | exact HoldA.of (by assumption) _ | exact HoldA.of (Fr.sub hF (by repeat (first | exact List.Sublist.slnil | apply List.Sublist.cons_cons | apply List.Sublist.cons))) _)) (fun _ => ?_)
   clear hK K; try clear hbn
   try simp only [nrm, Act.put]
   clear hb4 hg4 hle
   refine tkf 6 rfl ?_
   try simp only [nrm, Act.put]
   refine tkf 7 rfl ?_
   try simp only [nrm, Act.put]
   refine stc 8 2 (v := .slice _ _ _) hF rfl rfl rfl rfl rfl rfl HK.out rfl ?_
   clear hF hF0; intro ww hF; simp only [nf] at hF
   try simp only [nrm, Act.put]
   refine dnw ?_
   rw [Hse.out] at hF
   clear Hse Hsz Hpt HK
   go_wp2_with (first
    | go_skip
    | (refine aA rfl rfl hF ?_; clear hF; intro gg ww hF; simp only [nf] at hF)
    | (refine aB rfl rfl hF rfl ?_; clear hF; intro gg ww hF; simp only [nf] at hF)
    | (refine iL (t := 3) hF rfl rfl fun ho hx hb => ?_; refine aC (v := .int _ _) ho hb hx hF rfl rfl ?_; clear ho hx hb)
    | (refine iL hF rfl rfl fun ho hx hb => ?_; (first | refine aL ho hb hx hF rfl rfl ?_ | refine aC (v := .slice _ _ _) ho hb hx hF rfl rfl ?_ | refine aC (v := .string _) ho hb hx hF rfl rfl ?_ | refine aC (v := .bool _) ho hb hx hF rfl rfl ?_); clear ho hx hb)
    | (refine iS hF rfl rfl fun ho hx hb => ?_; (first | refine aS ho hb hx hF rfl rfl rfl rfl ?_ | refine aT (v := .int _ _) ho hb hx hF rfl rfl rfl rfl ?_ | refine aT (v := .slice _ _ _) ho hb hx hF rfl rfl rfl rfl ?_ | refine aT (v := .bool _) ho hb hx hF rfl rfl rfl rfl ?_); clear ho hx hb hF; intro ww hF; simp only [nf] at hF)
    )
   have hck : cl[k]? = some c := HCK.out
   exact ⟨⟨k + 1, L ++ [{ c with ra := some ⟨g4, 0, none⟩, rc := c.red.length }], by omega, by go_num, ⟨by rw [List.length_append, hL.out.1]; rfl, by rw [List.map_append, hL.out.2, take_snoc _ _ _ hck, List.map_append]; rfl⟩, by
    simp only [nf]
    exact (hF.sub (.cons_cons _ (.cons_cons _ (.cons_cons _ (.cons_cons _ (.cons_cons _ (.cons _ .slnil))))))).weak fun W h x hx => by
     rcases List.mem_append.1 hx with hx | hx
     ·
      exact h.1 x hx
     ·
      rw [List.mem_singleton] at hx
      rw [hx]
      exact h.2⟩, by simp [intOf]; omega⟩
  ·
   have hkl : k = cl.length := by omega
   have hk1 : ¬ (k : Int) < (cl.length : Int) := by omega
   have hk2 : decide ((k : Int) < (cl.length : Int)) = false := by simpa using hlt
   have hk3 : decide (k < cl.length) = false := by simpa using hlt
   have HL2 := Lib.hid (show L.length = cl.length ∧ L.map clP = cl.map clP from by
    have h := hL.out
    rw [hkl, List.take_length] at h
    exact h)
   rw [hkl, List.drop_length, List.append_nil] at hF
   clear hlt hkl hL
   go_upto_region 7 with (fail)
   go_wp2_with (first
    | go_skip
    | (refine aA rfl rfl hF ?_; clear hF; intro gg ww hF; simp only [nf] at hF)
    | (refine aB rfl rfl hF rfl ?_; clear hF; intro gg ww hF; simp only [nf] at hF)
    | (refine iL (t := 3) hF rfl rfl fun ho hx hb => ?_; refine aC (v := .int _ _) ho hb hx hF rfl rfl ?_; clear ho hx hb)
    | (refine iL hF rfl rfl fun ho hx hb => ?_; (first | refine aL ho hb hx hF rfl rfl ?_ | refine aC (v := .slice _ _ _) ho hb hx hF rfl rfl ?_ | refine aC (v := .string _) ho hb hx hF rfl rfl ?_ | refine aC (v := .bool _) ho hb hx hF rfl rfl ?_); clear ho hx hb)
    | (refine iS hF rfl rfl fun ho hx hb => ?_; (first | refine aS ho hb hx hF rfl rfl rfl rfl ?_ | refine aT (v := .int _ _) ho hb hx hF rfl rfl rfl rfl ?_ | refine aT (v := .slice _ _ _) ho hb hx hF rfl rfl rfl rfl ?_ | refine aT (v := .bool _) ho hb hx hF rfl rfl rfl rfl ?_); clear ho hx hb hF; intro ww hF; simp only [nf] at hF)
    )
   refine bodyPost_ret (results1 Tryz.results48 (res_cell 1 hF rfl rfl rfl)) rfl ⟨_, rfl, ?_, hF.below⟩
   have ht := hF.data
   have hb2 := hF.blk 2 _ rfl
   have hb3 := hF.blk 3 _ rfl
   have hb4 := hF.blk 4 _ rfl
   have e1 := HL2.out.1
   refine ⟨L, some ⟨g1, 0, none⟩, cl.length, some ⟨g2, 0, none⟩, b.us.length, some ⟨g3, 0, none⟩, rs.length, ?_, fun ad e => ?_, fun w2 ha => ?_⟩
   ·
    rw [e1]; rfl
   ·
    injection e with e
    subst e
    exact hb4.1
   ·
    have hk {g : Nat} {t : TypeId} {cs : Array Value} (h1 : w.heap.size ≤ g) (h : Blk _ g t cs) : Blk w2 g t cs := (ha.2 g h1 h.lt).trans h
    refine ⟨by rw [HL2.out.2]; exact hpl.out, ⟨by omega, ?_, fun x hx => ?_⟩, ⟨Nat.le_refl _, K9.blk_reads (hk hb3.1 hb3.2) (by rw [uCells_len]; omega)⟩, ⟨Nat.le_refl _, hrl, K9.blk_reads (hk hb4.1 hb4.2) (by have := recCells_len rs; omega)⟩⟩
    ·
     exact K9.blk_reads (hk hb2.1 hb2.2) (by rw [cCells_len]; omega)
    ·
     obtain ⟨hc, g, hg, hl, hh⟩ := ht x hx
     rw [hg, hc]
     exact ⟨Nat.le_refl _, K9.blk_reads (hk hl hh) (by rw [strVs, List.length_map]; omega)⟩
end
end Go.Proofs.YtnhjgocdepbajaaGreat
