/- seen.object: a value of names with values. Condition: at most a hundred parts. Printed by wip/tools/genYq.py. -/
import Derived.Test.YtnhjgocdepbajaaGreatB6
set_option linter.unusedVariables false
set_option linter.unusedSimpArgs false
set_option maxRecDepth 20000
namespace Go.Proofs.YtnhjgocdepbajaaGreat
open Go.RowKit S19 C17 R
structure Pt where
 nm : List UInt8
 lf : Leaf
def Pt.arr (p : Pt) : Array Value := p7 ⟨p.nm.toArray⟩ p.lf.k p.lf.b p.lf.n ⟨p.lf.s.toArray⟩
def ptCells (ps : List Pt) : List Value := ps.flatMap fun p => p.arr.toList
theorem pt_len (ps : List Pt) : (ptCells ps).length = ps.length * 7 := by
 induction ps with
 | nil => rfl
 | cons p ps ih => rw [ptCells, List.flatMap_cons, List.length_append, ← ptCells, ih, show p.arr.toList.length = 7 from rfl, List.length_cons]; omega
theorem pt_get : ∀ (ps : List Pt) (k : Nat) (p : Pt), ps[k]? = some p → ∀ j, j < 7 → (ptCells ps)[7 * k + j]? = p.arr.toList[j]?
 | [], k, f, h, j, _ => by simp at h
 | x :: fs, 0, f, h, j, hj => by
  simp at h
  subst h
  rw [ptCells, List.flatMap_cons, List.getElem?_append_left (by show _ < 7; omega)]
  simp
 | x :: fs, k + 1, f, h, j, hj => by
  rw [ptCells, List.flatMap_cons, List.getElem?_append_right (by show 7 ≤ _; omega), show x.arr.toList.length = 7 from rfl, show 7 * (k + 1) + j - 7 = 7 * k + j by omega]
  exact pt_get fs k f (by simpa using h) j hj
theorem pt_at {w : World} {B n : Nat} {ad : Addr} {ps : List Pt} (h : Reads w B 7 (some ad) n (ptCells ps)) {k : Nat} {p : Pt} (hk : ps[k]? = some p) : ∀ j u, p.arr.toList[j]? = some u → w.cell? ((ad.add (k * 7)).add j) = some u := by
 intro j u hu
 have hj : j < 7 := (List.getElem?_eq_some_iff.1 hu).1
 have hkl := (List.getElem?_eq_some_iff.1 hk).1
 have hn := h.1
 rw [pt_len] at hn
 obtain ⟨ad', e, _, hc⟩ := h.2 (by omega)
 injection e with e
 subst e
 rw [add_of_add]
 apply hc
 rw [show k * 7 + j = 7 * k + j by omega, pt_get ps k p hk j hj]
 exact hu
def nmC (ps : List Pt) : List Value := strVs (ps.map (·.nm))
def lfC (ps : List Pt) : List Value := leafCells (ps.map (·.lf))
theorem nmC_snoc (l : List Pt) (p : Pt) : nmC l ++ (#[.string ⟨p.nm.toArray⟩] : Array Value).toList = nmC (l ++ [p]) := by rw [nmC, nmC, List.map_append, strVs, strVs, List.map_append]; rfl
theorem lfC_snoc (l : List Pt) (p : Pt) : lfC l ++ (c6 p.lf.k p.lf.b p.lf.n ⟨p.lf.s.toArray⟩ none 0 0 none 0 0).toList = lfC (l ++ [p]) := by
 rw [lfC, lfC, List.map_append, leafCells, leafCells, List.map_append, List.flatten_append]
 rfl
theorem own_cap {w : World} {base : Nat} {e : TypeId} {s n m c : Nat} {A : Option Addr} {xs : List Value} (h : w.ownsRow base e s (.slice A m c) n xs) : n ≤ c ∧ c ≤ 9223372036854775807 := by
 rcases h.2 with ⟨h0, rfl⟩ | ⟨g, cap, cur, h0, _, _, h1, h2, _⟩
 ·
  injection h0 with _ _ h0
  omega
 ·
  injection h0 with _ _ h0
  subst h0
  exact ⟨h1, h2⟩
theorem obj_o {w : World} {base : Nat} {e e' : TypeId} {NA A : Option Addr} {nc c : Nat} {ns : List (List UInt8)} {ls : List Leaf} {n : Nat} (en : ns.length = n) (el : ls.length = n) (h1 : w.ownsRow base e 1 (.slice NA n nc) n (strVs ns)) (h2 : w.ownsRow base e' 6 (.slice A n c) n (leafCells ls)) :
  JvV w base (objJ ns ls) (cells6 6 false 0 [] NA n nc A n c) := by
 subst en
 rw [objJ, JvV]
 refine ⟨NA, nc, A, c, ls.map Leaf.cells, by rw [List.length_map, el], own_cap h1, by rw [List.length_map, el]; exact own_cap h2, Reads.of_own h1, fun _ ad e => (h1.lt _ (by rw [e]; rfl)).1, ?_, fun _ ad e => (h2.lt _ (by rw [e]; rfl)).1, leaf_vs w base ls⟩
 rw [List.length_map, el]
 exact Reads.of_own h2
theorem kp_jv {w : World} {bs : List Bx} {lo : Nat} {v : Jv} {cs : List Value} (h : JvV w lo v cs) (hb : ∀ x ∈ bs, x.1 < lo) : Kp w bs (fun W => JvV W lo v cs) :=
 fun w' hs hk => JvV.keep (fun p hp hlo => World.cell?_of_block (hk _ hp (fun x hx e => by have := hb x hx; omega))) (Nat.le_refl _) hs v cs h
def ObjR (ns : List (List UInt8)) (ls : List Leaf) (n : Nat) (w : World) (e : Ending) (w' : World) : Prop := ∃ (NA : Option Addr) (nc : Nat) (A : Option Addr) (c : Nat), e = .returned (.agg (c6 6 false 0 ⟨#[]⟩ NA n nc A n c)) ∧ JvV w' w.heap.size (objJ ns ls) (cells6 6 false 0 [] NA n nc A n c) ∧ Below w.heap.size w w'
section
variable {ops : Array Oper} {Q : Exit → Act → World → Prop} {w0 w : World} {bs : List Bx} {D : World → Prop} {a : Act}
theorem rgv {id : Nat} (ks : List Nat) {bs' : List Bx} (bs : List Bx) (hF : Fr w0 w bs' D) (hs : bs.Sublist bs') (h : Fr w0 w.drew bs' D → Fr w0 w.drew bs (fun _ => True) → wpAnyL Tryz.prog .any ops (Qn Q) (HoldA ks fun W => Fr w0 W bs fun _ => True) ops.size (Array.replicate ops.size false) a w.drew) :
  (Code.region id ops true).wp Tryz.prog Q a w :=
 Code.wp_mono (fun e a' w' h => by rw [h.1]; exact h.2) (wp_region_L (by kernel_rfl) (h hF.drew ((hF.drew.sub hs).weak fun _ _ => trivial)))
end
instance : OneIs 46 := ⟨⟨_, Tryz.underlying46, rfl⟩, by kernel_rfl⟩
set_option maxHeartbeats 8000000 in
theorem object_walk (ps : List Pt) (A : Option Addr) (c : Nat) (w : World) (hr : Reads w w.heap.size 7 A ps.length (ptCells ps)) (hm : ps.length ≤ 100) :
  Calls Tryz.prog 37 #[.slice A ps.length c] w (ObjR (ps.map (·.nm)) (ps.map (·.lf)) ps.length w) := by
 obtain ⟨is0, his, hs0, hs1, hs2⟩ := K9.info_parts4 info_string
 obtain ⟨i0, hi, hz0, hz1, hz2⟩ := K9.info_parts4 info_jv
 have hF : Fr w w [] (Two w.heap.size 9 1 (.slice none 0 0) 0 (nmC (ps.take 0)) 48 6 (.slice none 0 0) 0 (lfC (ps.take 0))) := Fr.start w (Kp.both (kp_owns (World.ownsRow_nil _ _ _ _) (fun g h => by cases h)) (kp_owns (World.ownsRow_nil _ _ _ _) (fun g h => by cases h)))
 have HR := Lib.hid (fun W (hb : Below w.heap.size w W) => hr.below hb)
 clear hr
 have HI := Lib.hid (show is0 = is0 ∧ i0 = i0 from ⟨rfl, rfl⟩)
 go_enter Tryz.func37, Tryz.ntmps37
 go_wp2_with (first
  | go_skip
  | (refine aA rfl rfl hF ?_; clear hF; intro gg ww hF; simp only [nf] at hF)
  | (refine aB rfl rfl hF rfl ?_; clear hF; intro gg ww hF; simp only [nf] at hF)
  | (refine iL (t := 3) hF rfl rfl fun ho hx hb => ?_; refine aC (v := .int _ _) ho hb hx hF rfl rfl ?_; clear ho hx hb)
  | (refine iL hF rfl rfl fun ho hx hb => ?_; (first | refine aL ho hb hx hF rfl rfl ?_ | refine aC (v := .slice _ _ _) ho hb hx hF rfl rfl ?_ | refine aC (v := .string _) ho hb hx hF rfl rfl ?_ | refine aC (v := .bool _) ho hb hx hF rfl rfl ?_); clear ho hx hb)
  | (refine iS hF rfl rfl fun ho hx hb => ?_; (first | refine aS ho hb hx hF rfl rfl rfl rfl ?_ | refine aT (v := .int _ _) ho hb hx hF rfl rfl rfl rfl ?_ | refine aT (v := .slice _ _ _) ho hb hx hF rfl rfl rfl rfl ?_ | refine aT (v := .bool _) ho hb hx hF rfl rfl rfl rfl ?_); clear ho hx hb hF; intro ww hF; simp only [nf] at hF)
  | (refine aV 48 (.agg (c6 6 false 0 ⟨#[]⟩ none 0 0 none 0 0)) rfl (fun _ => by kernel_rfl) rfl ?_)
  )
 obtain ⟨bs0, hbs0, hF0⟩ := hF.named
 have HB0 := Lib.hid hbs0
 clear hbs0 hF
 go_loopw [9] (fun iv wr => ∃ (k : Nat) (NA : Option Addr) (nc : Nat) (B : Option Addr) (c : Nat), k ≤ ps.length ∧ iv = .int .i64 k ∧ Fr w wr (bs0.set 1 (gg, 48, c6 6 false 0 ⟨#[]⟩ NA k nc B k c)) (Two w.heap.size 9 1 (.slice NA k nc) k (nmC (ps.take k)) 48 6 (.slice B k c) k (lfC (ps.take k)))) (fun iv _ => ps.length - (intOf iv).toNat)
 case atStart =>
  refine ⟨0, none, 0, none, 0, by omega, rfl, ?_⟩
  have hbs0 := HB0.out
  subst hbs0
  exact hF0
 case round =>
  clear hF0
  obtain ⟨k, NA, nc, B, c', hk, rfl, hF⟩ := hrel
  have hbs0 := HB0.out
  subst hbs0
  simp only [nf] at hF
  by_cases hlt : k < ps.length
  ·
   obtain ⟨p, hpk⟩ : ∃ p, ps[k]? = some p := ⟨_, List.getElem?_eq_getElem hlt⟩
   obtain ⟨ad, rfl⟩ : ∃ ad, A = some ad := by obtain ⟨ad, h, _⟩ := (HR.out w (Below.refl _ _)).2 (by omega); exact ⟨ad, h⟩
   have HP := Lib.hid (fun W (hb : Below w.heap.size w W) => pt_at (HR.out W hb) hpk)
   have HT := Lib.hid (show nmC (ps.take k) ++ (#[.string ⟨p.nm.toArray⟩] : Array Value).toList = nmC (ps.take (k + 1)) ∧ lfC (ps.take k) ++ (c6 p.lf.k p.lf.b p.lf.n ⟨p.lf.s.toArray⟩ none 0 0 none 0 0).toList = lfC (ps.take (k + 1)) from by rw [nmC_snoc, lfC_snoc, take_snoc _ _ _ hpk]; exact ⟨rfl, rfl⟩)
   obtain ⟨nm, ⟨lk, lb, ln, ls⟩⟩ := p
   simp only at HT
   replace HP := Lib.hid (show ∀ W, Below w.heap.size w W → ∀ j u, (p7 ⟨nm.toArray⟩ lk lb ln ⟨ls.toArray⟩).toList[j]? = some u → W.cell? ((ad.add (k * 7)).add j) = some u from HP.out)
   have hlt2 : (k : Int) < (ps.length : Int) := by omega
   have HK := Lib.hid (show k ≤ 1000 by omega)
   clear hpk
   go_wp2_with (first
    | go_skip
    | (refine aA rfl rfl hF ?_; clear hF; intro gg ww hF; simp only [nf] at hF)
    | (refine aB rfl rfl hF rfl ?_; clear hF; intro gg ww hF; simp only [nf] at hF)
    | (refine iL (t := 3) hF rfl rfl fun ho hx hb => ?_; refine aC (v := .int _ _) ho hb hx hF rfl rfl ?_; clear ho hx hb)
    | (refine iL hF rfl rfl fun ho hx hb => ?_; (first | refine aL ho hb hx hF rfl rfl ?_ | refine aC (v := .slice _ _ _) ho hb hx hF rfl rfl ?_ | refine aC (v := .string _) ho hb hx hF rfl rfl ?_ | refine aC (v := .bool _) ho hb hx hF rfl rfl ?_); clear ho hx hb)
    | (refine iS hF rfl rfl fun ho hx hb => ?_; (first | refine aS ho hb hx hF rfl rfl rfl rfl ?_ | refine aT (v := .int _ _) ho hb hx hF rfl rfl rfl rfl ?_ | refine aT (v := .slice _ _ _) ho hb hx hF rfl rfl rfl rfl ?_ | refine aT (v := .bool _) ho hb hx hF rfl rfl rfl rfl ?_); clear ho hx hb hF; intro ww hF; simp only [nf] at hF)
    | (first | refine wpL rfl fun K hK => wp_val (exec_row_at (t' := 86) [.string ⟨nm.toArray⟩, .int .i64 lk, .bool lb, .int .i64 ln, .string ⟨ls.toArray⟩, .slice none 0 0, .slice none 0 0] rfl rfl (HP.out _ hF.below) rfl) (hK _ _ ?_))
    )
   refine rgv [13] [_, _] hF (.cons _ (.cons_cons _ (.cons_cons _ .slnil))) fun hF hF1 => ?_
   refine tkf 0 rfl ?_
   try simp only [nrm, Act.put]
   refine tkc 1 0 [13] (v := .slice _ _ _) rfl rfl rfl rfl rfl ?_
   try simp only [nrm, Act.put]
   refine tkf 2 rfl ?_
   try simp only [nrm, Act.put]
   refine tkc 3 1 [13] (v := .string _) rfl rfl rfl rfl rfl ?_
   try simp only [nrm, Act.put]
   refine tkf 6 rfl ?_
   try simp only [nrm, Act.put]
   refine tkc 7 0 [13] (v := .slice _ _ _) rfl rfl rfl rfl rfl ?_
   try simp only [nrm, Act.put]
   refine tkf 8 rfl ?_
   try simp only [nrm, Act.put]
   refine tkp 9 1 [13, 11, 10] [.int .i64 lk, .bool lb, .int .i64 ln, .string ⟨ls.toArray⟩, .slice none 0 0, .slice none 0 0] rfl rfl rfl rfl (by intro j u hu; rw [Nat.add_comm, ← Array.getElem?_toList]; exact hu) rfl ?_
   try simp only [nrm, Act.put]
   clear hF1
   refine rd2 4 10 rfl rfl (fun K hK => ?_) (fun K hK => ?_)
   ·
    refine bsv #[.string ⟨nm.toArray⟩] 9 1 hF rfl (fun _ => by kernel_rfl) ?_
    clear hF; intro gg ww hF; simp only [nf] at hF
    refine hK.out _ _ (by (first | exact HoldA.past rfl | exact HoldA.of ((Fr.sub hF (by repeat (first | exact List.Sublist.slnil | apply List.Sublist.cons_cons | apply List.Sublist.cons))).weak fun _ _ => trivial) _)) (fun _ => ?_)
    clear hK K
    try simp only [nrm, Act.put]
    refine rd2 5 10 rfl rfl (fun K hK => ?_) (fun K hK => ?_)
    ·
     refine ap1 3 45 is0 (.string ⟨#[]⟩) 16 hF (by decide) rfl rfl Tryz.underlying45 his hs0 hs1 hs2 rfl (by decide) rfl rfl rfl rfl inferInstance HK.out (by decide) ?_
     clear hF; intro gn cn wn hn1 hn2 hF
     clear hn1 hn2
     refine hK.out _ _ (by (first | exact HoldA.past rfl | exact HoldA.of ((Fr.sub hF (by repeat (first | exact List.Sublist.slnil | apply List.Sublist.cons_cons | apply List.Sublist.cons))).weak fun _ _ => trivial) _)) (fun _ => ?_)
     clear hK K
     try simp only [nrm, Act.put]
     refine tkf 12 rfl ?_ (hS := HoldA.of ((Fr.sub hF (by repeat (first | exact List.Sublist.slnil | apply List.Sublist.cons_cons | apply List.Sublist.cons))).weak fun _ _ => trivial) _)
     try simp only [nrm, Act.put]
     refine rdw 10 rfl fun K hK => ?_
     refine bsv (c6 lk lb ln ⟨ls.toArray⟩ none 0 0 none 0 0) 48 1 hF rfl (fun _ => by kernel_rfl) ?_
     clear hF; intro gg ww hF; simp only [nf] at hF
     refine hK.out _ _ (by (first | exact HoldA.past rfl | exact HoldA.of ((Fr.sub hF (by repeat (first | exact List.Sublist.slnil | apply List.Sublist.cons_cons | apply List.Sublist.cons))).weak fun _ _ => trivial) _)) (fun _ => ?_)
     clear hK K
     try simp only [nrm, Act.put]
     refine rdw 11 rfl fun K hK => ?_
     refine ap2 4 46 i0 (.agg (cells6 0 false 0 [] none 0 0 none 0 0).toArray) 88 hF (by decide) rfl rfl Tryz.underlying46 hi hz0 hz1 hz2 rfl (by decide) rfl rfl rfl rfl inferInstance HK.out (by decide) ?_
     clear hF; intro gn cn wn hn1 hn2 hF
     clear hn1 hn2
     refine hK.out _ _ (by (first | exact HoldA.past rfl | exact HoldA.of ((Fr.sub hF (by repeat (first | exact List.Sublist.slnil | apply List.Sublist.cons_cons | apply List.Sublist.cons))).weak fun _ _ => trivial) _)) (fun _ => ?_)
     clear hK K
     try simp only [nrm, Act.put]
     refine stc 13 1 (v := .slice _ _ _) hF rfl rfl rfl rfl rfl rfl rfl rfl ?_
     clear hF; intro ww hF; simp only [nf] at hF
     try simp only [nrm, Act.put]
     refine tkf 14 rfl ?_
     try simp only [nrm, Act.put]
     refine stc 15 1 (v := .slice _ _ _) hF rfl rfl rfl rfl rfl rfl rfl rfl ?_
     clear hF; intro ww hF; simp only [nf] at hF
     try simp only [nrm, Act.put]
     refine dnw ?_
     rw [HT.out.1, HT.out.2] at hF
     clear HT HP HK
     go_wp2_with (first
      | go_skip
      | (refine aA rfl rfl hF ?_; clear hF; intro gg ww hF; simp only [nf] at hF)
      | (refine aB rfl rfl hF rfl ?_; clear hF; intro gg ww hF; simp only [nf] at hF)
      | (refine iL (t := 3) hF rfl rfl fun ho hx hb => ?_; refine aC (v := .int _ _) ho hb hx hF rfl rfl ?_; clear ho hx hb)
      | (refine iL hF rfl rfl fun ho hx hb => ?_; (first | refine aL ho hb hx hF rfl rfl ?_ | refine aC (v := .slice _ _ _) ho hb hx hF rfl rfl ?_ | refine aC (v := .string _) ho hb hx hF rfl rfl ?_ | refine aC (v := .bool _) ho hb hx hF rfl rfl ?_); clear ho hx hb)
      | (refine iS hF rfl rfl fun ho hx hb => ?_; (first | refine aS ho hb hx hF rfl rfl rfl rfl ?_ | refine aT (v := .int _ _) ho hb hx hF rfl rfl rfl rfl ?_ | refine aT (v := .slice _ _ _) ho hb hx hF rfl rfl rfl rfl ?_ | refine aT (v := .bool _) ho hb hx hF rfl rfl rfl rfl ?_); clear ho hx hb hF; intro ww hF; simp only [nf] at hF)
      )
     exact ⟨⟨k + 1, _, _, _, _, by omega, by go_num, by
      simp only [nf]
      exact hF.sub (.cons_cons _ (.cons_cons _ (.cons _ (.cons _ (.cons _ .slnil)))))⟩, by simp [intOf]; omega⟩
    ·
     refine bsv (c6 lk lb ln ⟨ls.toArray⟩ none 0 0 none 0 0) 48 1 hF rfl (fun _ => by kernel_rfl) ?_
     clear hF; intro gg ww hF; simp only [nf] at hF
     refine hK.out _ _ (by (first | exact HoldA.past rfl | exact HoldA.of ((Fr.sub hF (by repeat (first | exact List.Sublist.slnil | apply List.Sublist.cons_cons | apply List.Sublist.cons))).weak fun _ _ => trivial) _)) (fun _ => ?_)
     clear hK K
     try simp only [nrm, Act.put]
     refine rdw 5 rfl fun K hK => ?_
     refine ap1 3 45 is0 (.string ⟨#[]⟩) 16 hF (by decide) rfl rfl Tryz.underlying45 his hs0 hs1 hs2 rfl (by decide) rfl rfl rfl rfl inferInstance HK.out (by decide) ?_
     clear hF; intro gn cn wn hn1 hn2 hF
     clear hn1 hn2
     refine hK.out _ _ (by (first | exact HoldA.past rfl | exact HoldA.of ((Fr.sub hF (by repeat (first | exact List.Sublist.slnil | apply List.Sublist.cons_cons | apply List.Sublist.cons))).weak fun _ _ => trivial) _)) (fun _ => ?_)
     clear hK K
     try simp only [nrm, Act.put]
     refine tkf 12 rfl ?_ (hS := HoldA.of ((Fr.sub hF (by repeat (first | exact List.Sublist.slnil | apply List.Sublist.cons_cons | apply List.Sublist.cons))).weak fun _ _ => trivial) _)
     try simp only [nrm, Act.put]
     refine rdw 11 rfl fun K hK => ?_
     refine ap2 4 46 i0 (.agg (cells6 0 false 0 [] none 0 0 none 0 0).toArray) 88 hF (by decide) rfl rfl Tryz.underlying46 hi hz0 hz1 hz2 rfl (by decide) rfl rfl rfl rfl inferInstance HK.out (by decide) ?_
     clear hF; intro gn cn wn hn1 hn2 hF
     clear hn1 hn2
     refine hK.out _ _ (by (first | exact HoldA.past rfl | exact HoldA.of ((Fr.sub hF (by repeat (first | exact List.Sublist.slnil | apply List.Sublist.cons_cons | apply List.Sublist.cons))).weak fun _ _ => trivial) _)) (fun _ => ?_)
     clear hK K
     try simp only [nrm, Act.put]
     refine stc 13 1 (v := .slice _ _ _) hF rfl rfl rfl rfl rfl rfl rfl rfl ?_
     clear hF; intro ww hF; simp only [nf] at hF
     try simp only [nrm, Act.put]
     refine tkf 14 rfl ?_
     try simp only [nrm, Act.put]
     refine stc 15 1 (v := .slice _ _ _) hF rfl rfl rfl rfl rfl rfl rfl rfl ?_
     clear hF; intro ww hF; simp only [nf] at hF
     try simp only [nrm, Act.put]
     refine dnw ?_
     rw [HT.out.1, HT.out.2] at hF
     clear HT HP HK
     go_wp2_with (first
      | go_skip
      | (refine aA rfl rfl hF ?_; clear hF; intro gg ww hF; simp only [nf] at hF)
      | (refine aB rfl rfl hF rfl ?_; clear hF; intro gg ww hF; simp only [nf] at hF)
      | (refine iL (t := 3) hF rfl rfl fun ho hx hb => ?_; refine aC (v := .int _ _) ho hb hx hF rfl rfl ?_; clear ho hx hb)
      | (refine iL hF rfl rfl fun ho hx hb => ?_; (first | refine aL ho hb hx hF rfl rfl ?_ | refine aC (v := .slice _ _ _) ho hb hx hF rfl rfl ?_ | refine aC (v := .string _) ho hb hx hF rfl rfl ?_ | refine aC (v := .bool _) ho hb hx hF rfl rfl ?_); clear ho hx hb)
      | (refine iS hF rfl rfl fun ho hx hb => ?_; (first | refine aS ho hb hx hF rfl rfl rfl rfl ?_ | refine aT (v := .int _ _) ho hb hx hF rfl rfl rfl rfl ?_ | refine aT (v := .slice _ _ _) ho hb hx hF rfl rfl rfl rfl ?_ | refine aT (v := .bool _) ho hb hx hF rfl rfl rfl rfl ?_); clear ho hx hb hF; intro ww hF; simp only [nf] at hF)
      )
     exact ⟨⟨k + 1, _, _, _, _, by omega, by go_num, by
      simp only [nf]
      exact hF.sub (.cons_cons _ (.cons_cons _ (.cons _ (.cons _ (.cons _ .slnil)))))⟩, by simp [intOf]; omega⟩
   ·
    refine bsv (c6 lk lb ln ⟨ls.toArray⟩ none 0 0 none 0 0) 48 1 hF rfl (fun _ => by kernel_rfl) ?_
    clear hF; intro gg ww hF; simp only [nf] at hF
    refine hK.out _ _ (by (first | exact HoldA.past rfl | exact HoldA.of ((Fr.sub hF (by repeat (first | exact List.Sublist.slnil | apply List.Sublist.cons_cons | apply List.Sublist.cons))).weak fun _ _ => trivial) _)) (fun _ => ?_)
    clear hK K
    try simp only [nrm, Act.put]
    refine rdw 4 rfl fun K hK => ?_
    refine bsv #[.string ⟨nm.toArray⟩] 9 1 hF rfl (fun _ => by kernel_rfl) ?_
    clear hF; intro gg ww hF; simp only [nf] at hF
    refine hK.out _ _ (by (first | exact HoldA.past rfl | exact HoldA.of ((Fr.sub hF (by repeat (first | exact List.Sublist.slnil | apply List.Sublist.cons_cons | apply List.Sublist.cons))).weak fun _ _ => trivial) _)) (fun _ => ?_)
    clear hK K
    try simp only [nrm, Act.put]
    refine rdw 5 rfl fun K hK => ?_
    refine ap1 4 45 is0 (.string ⟨#[]⟩) 16 hF (by decide) rfl rfl Tryz.underlying45 his hs0 hs1 hs2 rfl (by decide) rfl rfl rfl rfl inferInstance HK.out (by decide) ?_
    clear hF; intro gn cn wn hn1 hn2 hF
    clear hn1 hn2
    refine hK.out _ _ (by (first | exact HoldA.past rfl | exact HoldA.of ((Fr.sub hF (by repeat (first | exact List.Sublist.slnil | apply List.Sublist.cons_cons | apply List.Sublist.cons))).weak fun _ _ => trivial) _)) (fun _ => ?_)
    clear hK K
    try simp only [nrm, Act.put]
    refine tkf 12 rfl ?_ (hS := HoldA.of ((Fr.sub hF (by repeat (first | exact List.Sublist.slnil | apply List.Sublist.cons_cons | apply List.Sublist.cons))).weak fun _ _ => trivial) _)
    try simp only [nrm, Act.put]
    refine rdw 11 rfl fun K hK => ?_
    refine ap2 3 46 i0 (.agg (cells6 0 false 0 [] none 0 0 none 0 0).toArray) 88 hF (by decide) rfl rfl Tryz.underlying46 hi hz0 hz1 hz2 rfl (by decide) rfl rfl rfl rfl inferInstance HK.out (by decide) ?_
    clear hF; intro gn cn wn hn1 hn2 hF
    clear hn1 hn2
    refine hK.out _ _ (by (first | exact HoldA.past rfl | exact HoldA.of ((Fr.sub hF (by repeat (first | exact List.Sublist.slnil | apply List.Sublist.cons_cons | apply List.Sublist.cons))).weak fun _ _ => trivial) _)) (fun _ => ?_)
    clear hK K
    try simp only [nrm, Act.put]
    refine stc 13 1 (v := .slice _ _ _) hF rfl rfl rfl rfl rfl rfl rfl rfl ?_
    clear hF; intro ww hF; simp only [nf] at hF
    try simp only [nrm, Act.put]
    refine tkf 14 rfl ?_
    try simp only [nrm, Act.put]
    refine stc 15 1 (v := .slice _ _ _) hF rfl rfl rfl rfl rfl rfl rfl rfl ?_
    clear hF; intro ww hF; simp only [nf] at hF
    try simp only [nrm, Act.put]
    refine dnw ?_
    rw [HT.out.1, HT.out.2] at hF
    clear HT HP HK
    go_wp2_with (first
     | go_skip
     | (refine aA rfl rfl hF ?_; clear hF; intro gg ww hF; simp only [nf] at hF)
     | (refine aB rfl rfl hF rfl ?_; clear hF; intro gg ww hF; simp only [nf] at hF)
     | (refine iL (t := 3) hF rfl rfl fun ho hx hb => ?_; refine aC (v := .int _ _) ho hb hx hF rfl rfl ?_; clear ho hx hb)
     | (refine iL hF rfl rfl fun ho hx hb => ?_; (first | refine aL ho hb hx hF rfl rfl ?_ | refine aC (v := .slice _ _ _) ho hb hx hF rfl rfl ?_ | refine aC (v := .string _) ho hb hx hF rfl rfl ?_ | refine aC (v := .bool _) ho hb hx hF rfl rfl ?_); clear ho hx hb)
     | (refine iS hF rfl rfl fun ho hx hb => ?_; (first | refine aS ho hb hx hF rfl rfl rfl rfl ?_ | refine aT (v := .int _ _) ho hb hx hF rfl rfl rfl rfl ?_ | refine aT (v := .slice _ _ _) ho hb hx hF rfl rfl rfl rfl ?_ | refine aT (v := .bool _) ho hb hx hF rfl rfl rfl rfl ?_); clear ho hx hb hF; intro ww hF; simp only [nf] at hF)
     )
    exact ⟨⟨k + 1, _, _, _, _, by omega, by go_num, by
     simp only [nf]
     exact hF.sub (.cons_cons _ (.cons_cons _ (.cons _ (.cons _ (.cons _ .slnil)))))⟩, by simp [intOf]; omega⟩
  ·
   have hkl : k = ps.length := by omega
   have hk1 : ¬ (k : Int) < (ps.length : Int) := by omega
   have hk2 : decide ((k : Int) < (ps.length : Int)) = false := by simpa using hlt
   have hk3 : decide (k < ps.length) = false := by simpa using hlt
   rw [hkl, List.take_length] at hF
   clear hlt hkl
   go_upto_region 7 with (fail)
   go_wp2_with (first
    | go_skip
    | (refine aA rfl rfl hF ?_; clear hF; intro gg ww hF; simp only [nf] at hF)
    | (refine aB rfl rfl hF rfl ?_; clear hF; intro gg ww hF; simp only [nf] at hF)
    | (refine iL (t := 3) hF rfl rfl fun ho hx hb => ?_; refine aC (v := .int _ _) ho hb hx hF rfl rfl ?_; clear ho hx hb)
    | (refine iL hF rfl rfl fun ho hx hb => ?_; (first | refine aL ho hb hx hF rfl rfl ?_ | refine aC (v := .slice _ _ _) ho hb hx hF rfl rfl ?_ | refine aC (v := .string _) ho hb hx hF rfl rfl ?_ | refine aC (v := .bool _) ho hb hx hF rfl rfl ?_); clear ho hx hb)
    | (refine iS hF rfl rfl fun ho hx hb => ?_; (first | refine aS ho hb hx hF rfl rfl rfl rfl ?_ | refine aT (v := .int _ _) ho hb hx hF rfl rfl rfl rfl ?_ | refine aT (v := .slice _ _ _) ho hb hx hF rfl rfl rfl rfl ?_ | refine aT (v := .bool _) ho hb hx hF rfl rfl rfl rfl ?_); clear ho hx hb hF; intro ww hF; simp only [nf] at hF)
    )
   refine bodyPost_ret (results1 Tryz.results37 (res_cell 0 hF rfl rfl rfl)) rfl ⟨NA, nc, B, c', rfl, ?_, hF.below⟩
   exact obj_o (by rw [List.length_map]) (by rw [List.length_map]) hF.data.1 hF.data.2
end Go.Proofs.YtnhjgocdepbajaaGreat
