/- countersignlaw23.within, known: what the document fixes. No condition. Printed by wip/tools/genYs.py. -/
import Derived.Test.YtnhjgocdepbajaaGreatYr
import Derived.Test.YtnhjgocdepbajaaGreatJp
set_option linter.unusedVariables false
set_option linter.unusedSimpArgs false
set_option maxRecDepth 20000
namespace Go.Proofs.YtnhjgocdepbajaaGreat
open Go.RowKit S19 C17 R
theorem within23_walk (z n : Int) (w : World) (hn : 1 ≤ n) (hn2 : n ≤ 9223372036854775807) (hz : -9223372036854775808 ≤ z ∧ z ≤ 9223372036854775807) :
  Calls Tryz.prog 9 #[.int .i64 z, .int .i64 n] w fun e w' => e = .returned (.int .i64 (z % n)) ∧ w = w' := by
 have h0 := Int.emod_nonneg z (show n ≠ 0 by omega)
 have h1 := Int.emod_lt_of_pos z (show 0 < n by omega)
 obtain ⟨hz1, hz2⟩ := hz
 by_cases h : 0 ≤ z
 ·
  go_enter Tryz.func9, Tryz.ntmps9
  go_wp2_with fail
  go_ret
  exact ⟨rfl, rfl⟩
 ·
  obtain ⟨r, er⟩ : ∃ r, z.tmod n = r := ⟨_, rfl⟩
  have hr : r = z % n ∧ r = 0 ∨ r = z % n - n ∧ r < 0 := by
   rw [← er, Int.tmod_eq_emod]
   by_cases hd : n ∣ z
   ·
    left
    have := Int.emod_eq_zero_of_dvd hd
    simp [hd]; omega
   ·
    right
    simp only [hd, or_false, h, if_false]
    omega
  rcases hr with ⟨e1, e2⟩ | ⟨e1, e2⟩
  ·
   have E := Lib.hid e1
   have hr0 : ¬ r < 0 := by omega
   have hz0 : z % n = 0 := by omega
   have hr0' : r = 0 := e2
   subst hr0'
   have HZ := Lib.hid hz0
   clear e1 hz0 h0 h1 e2
   go_enter Tryz.func9, Tryz.ntmps9
   go_wp2_with fail
   go_ret
   exact ⟨by rw [HZ.out]; rfl, rfl⟩
  ·
   have E : Hid (r + n = z % n) := by show _ = _; omega
   have hr1 : -n ≤ r := by omega
   clear e1 h0 h1
   go_enter Tryz.func9, Tryz.ntmps9
   go_wp2_with fail
   go_ret
   exact ⟨by rw [← E.out]; rfl, rfl⟩
section
variable {w0 w : World} {bs : List Bx} {D : World → Prop} {ops : Array Oper} {rest : List Oper} {op : Oper} {a : Act} {Q : Exit → Act → World → Prop}
theorem aQ {i k g : Nat} (vs : Array Value) {t t' : TypeId} {cs : Array Value} {x : Operand} [hs : StructIs t'] (ho : op.op = .load t' x) (hi : bs[i]? = some (g, t, cs)) (hx : a.eval x = .pointer (some ⟨g, k, none⟩))
  (hF : Fr w0 w bs D) (hw : Region.wanted op (yielded ops a.tmps) = true) (hv : ∀ j u, vs[j]? = some u → cs[k + j]? = some u) (hn : vs.size = hs.n) (h : wpList Tryz.prog ops Q rest (a.put op.dst (.agg vs)) w) : wpList Tryz.prog ops Q (op :: rest) a w :=
 aP vs.toList ho hi hx hF hw (fun j u hu => hv j u (by rw [← Array.getElem?_toList]; exact hu)) (by rw [Array.length_toList]; exact hn) (by rw [Array.toArray_toList]; exact h)
end
theorem gr_part (g : Gr) : ∀ j u, g.r.arr[j]? = some u → g.arr[2 + j]? = some u := by
 intro j u h
 rw [← Array.getElem?_toList] at h ⊢
 rw [Nat.add_comm]
 exact h
def R4 (n u : Int) : List Rc := [recS u, recU n u, recA n u, recR n u]
theorem cl_small {rs : List Rc} {w : World} {cl : List Cl} {CA : Option Addr} {cc : Nat} {UA : Option Addr} {uc : Nat} {RA : Option Addr} {rc : Nat} (h : StH bs0 rs w cl CA cc UA uc RA rc) : cl.length ≤ 1000000 ∧ bs0.us.length ≤ 1000000 ∧ ∀ c ∈ cl, c.red.length ≤ 100000 := by
 refine ⟨?_, by decide, fun c hc => ?_⟩
 ·
  have h1 := congrArg List.length h.pl
  rw [List.length_map] at h1
  rw [h1]
  decide
 ·
  have h1 : clP c ∈ bs0.cls := by rw [← h.pl]; exact List.mem_map_of_mem hc
  have h2 : ∀ x ∈ bs0.cls, x.red.length ≤ 100000 := by decide
  exact h2 _ h1
theorem field_recs (nm : List UInt8) (key : Int) (CA : Option Addr) (cn cc : Nat) (UA : Option Addr) (un uc : Nat) (RA : Option Addr) (rn rc : Nat) (W : World) : (Instr.field 31 (.agg (stA nm key CA cn cc UA un uc RA rn rc)) 4).run Tryz.prog W = .ok (.slice RA rn rc) W := by kernel_rfl
theorem tell_7 : tellJ bs0.cls bs0.us (activeO (R4 1 1) 0 7) = objJ [uAct] [lfB false] := rfl
theorem iss_1 : textJ (claimsJ bs0 0 (recC 1 1)) uIss = some [104, 116, 116, 112, 115, 58, 47, 47, 97, 115] := rfl
theorem drop_1 : (dropL (R4 1 1) 0 1 104).length = 2 := rfl
theorem sm_claims : smJ (claimsJ bs0 0 (recC 1 1)) := by
 simp [claimsJ, objJ, lfT, lfI, Leaf.jv, smJ, smJs]
 decide +kernel
theorem sm_act : smJ (objJ [uAct] [lfB false]) := by
 simp [objJ, lfB, Leaf.jv, smJ, smJs, uAct]
set_option maxHeartbeats 16000000 in
theorem known23_walk (w : World) : Calls Tryz.prog 6 #[] w fun e w' => e = .returned (.bool true) ∧ Below w.heap.size w w' := by
 have hF := Fr.nil w
 go_enter Tryz.func6, Tryz.ntmps6
 go_wp2_with (first
  | go_skip
  | (refine aA rfl rfl hF ?_; clear hF; intro gg ww hF; simp only [nf] at hF)
  | (refine aB rfl rfl hF rfl ?_; clear hF; intro gg ww hF; simp only [nf] at hF)
  | (refine iL (t := 3) hF rfl rfl fun ho hx hb => ?_; refine aC (v := .int _ _) ho hb hx hF rfl rfl ?_; clear ho hx hb)
  | (refine iL hF rfl rfl fun ho hx hb => ?_; (first | refine aL ho hb hx hF rfl rfl ?_ | refine aC (v := .slice _ _ _) ho hb hx hF rfl rfl ?_ | refine aC (v := .string _) ho hb hx hF rfl rfl ?_ | refine aC (v := .bool _) ho hb hx hF rfl rfl ?_); clear ho hx hb)
  | (refine iS hF rfl rfl fun ho hx hb => ?_; (first | refine aS ho hb hx hF rfl rfl rfl rfl ?_ | refine aT (v := .int _ _) ho hb hx hF rfl rfl rfl rfl ?_ | refine aT (v := .slice _ _ _) ho hb hx hF rfl rfl rfl rfl ?_ | refine aT (v := .bool _) ho hb hx hF rfl rfl rfl rfl ?_); clear ho hx hb hF; intro ww hF; simp only [nf] at hF)
  )
 refine (granted_walk 1 1 (.inl rfl) (.inl rfl) _).mono ?_
 rintro _ w1 ⟨v, rfl, ⟨cl, CA, cc, UA, uc, RA, rc, rfl, hra, hN⟩, hbn⟩
 have hsm := cl_small (hN _ (Agr.refl _ _))
 replace hF := (hF.call hbn).grow (kp_agr fun x hx => (hF.mem hx).2)
 have hN' : Hid (∀ W, (True ∧ Agr w.heap.size w1 W) → StH bs0 (R4 1 1) W cl CA cc UA uc RA rc) := fun W h => hN W h.2
 clear hbn hN hra
 have ca := fun W (hW : RecsAt W RA rc (R4 1 1)) => active_walk bs0 (R4 1 1) 0 104 cl CA cc UA uc RA rc W hW
 have c7 := fun W (hW : RecsAt W RA rc (R4 1 1)) => active_walk bs0 (R4 1 1) 0 7 cl CA cc UA uc RA rc W hW
 have ct := fun W (hW : StH bs0 (R4 1 1) W cl CA cc UA uc RA rc) => tell_walk bs0 (R4 1 1) 0 cl CA cc UA uc RA rc W hW hsm.1 hsm.2.1 7
 have cm := fun W (hW : StH bs0 (R4 1 1) W cl CA cc UA uc RA rc) => claims_walk bs0 (R4 1 1) 0 cl CA cc UA uc RA rc W hW hsm.1 hsm.2.1 (recC 1 1) (by decide) (by decide)
 have cd := fun W (hW : StH bs0 (R4 1 1) W cl CA cc UA uc RA rc) => drop_walk bs0 (R4 1 1) 0 1 104 cl CA cc UA uc RA rc W hW hsm.1 hsm.2.1 hsm.2.2
 rw [show activeO (R4 1 1) 0 104 = some (recA 1 1) from rfl] at ca
 rw [show activeO (R4 1 1) 0 7 = none from rfl] at c7
 rw [tell_7] at ct
 have hdl := drop_1
 generalize dropL (R4 1 1) 0 1 104 = L at cd hdl
 replace cd : ∀ W, StH bs0 (R4 1 1) W cl CA cc UA uc RA rc → Calls Tryz.prog 16 #[.agg (stA bs0.nm bs0.key CA cl.length cc UA bs0.us.length uc RA 4 rc), .int .i64 0, .int .i64 1, .int .i64 104] W (DropN bs0 L W) := cd
 replace ca := Lib.hid ca
 replace c7 := Lib.hid c7
 replace ct := Lib.hid ct
 replace cm := Lib.hid cm
 replace cd := Lib.hid cd
 clear hsm
 go_wp2_with (first
  | go_skip
  | (refine aA rfl rfl hF ?_; clear hF; intro gg ww hF; simp only [nf] at hF)
  | (refine aB rfl rfl hF rfl ?_; clear hF; intro gg ww hF; simp only [nf] at hF)
  | (refine iL (t := 3) hF rfl rfl fun ho hx hb => ?_; refine aC (v := .int _ _) ho hb hx hF rfl rfl ?_; clear ho hx hb)
  | (refine iL hF rfl rfl fun ho hx hb => ?_; (first | refine aL ho hb hx hF rfl rfl ?_ | refine aC (v := .slice _ _ _) ho hb hx hF rfl rfl ?_ | refine aC (v := .string _) ho hb hx hF rfl rfl ?_ | refine aC (v := .bool _) ho hb hx hF rfl rfl ?_); clear ho hx hb)
  | (refine iS hF rfl rfl fun ho hx hb => ?_; (first | refine aS ho hb hx hF rfl rfl rfl rfl ?_ | refine aT (v := .int _ _) ho hb hx hF rfl rfl rfl rfl ?_ | refine aT (v := .slice _ _ _) ho hb hx hF rfl rfl rfl rfl ?_ | refine aT (v := .bool _) ho hb hx hF rfl rfl rfl rfl ?_); clear ho hx hb hF; intro ww hF; simp only [nf] at hF)
  )
 refine (ca.out _ (hN'.out _ hF.data).rs).mono ?_
 rintro _ w2 ⟨rfl, hbn⟩
 replace hF := hF.call hbn
 clear hbn
 go_wp2_with (first
  | go_skip
  | (refine aA rfl rfl hF ?_; clear hF; intro gg ww hF; simp only [nf] at hF)
  | (refine aB rfl rfl hF rfl ?_; clear hF; intro gg ww hF; simp only [nf] at hF)
  | (refine iL (t := 3) hF rfl rfl fun ho hx hb => ?_; refine aC (v := .int _ _) ho hb hx hF rfl rfl ?_; clear ho hx hb)
  | (refine iL hF rfl rfl fun ho hx hb => ?_; (first | refine aL ho hb hx hF rfl rfl ?_ | refine aC (v := .slice _ _ _) ho hb hx hF rfl rfl ?_ | refine aC (v := .string _) ho hb hx hF rfl rfl ?_ | refine aC (v := .bool _) ho hb hx hF rfl rfl ?_); clear ho hx hb)
  | (refine iS hF rfl rfl fun ho hx hb => ?_; (first | refine aS ho hb hx hF rfl rfl rfl rfl ?_ | refine aT (v := .int _ _) ho hb hx hF rfl rfl rfl rfl ?_ | refine aT (v := .slice _ _ _) ho hb hx hF rfl rfl rfl rfl ?_ | refine aT (v := .bool _) ho hb hx hF rfl rfl rfl rfl ?_); clear ho hx hb hF; intro ww hF; simp only [nf] at hF)
  )
 refine (c7.out _ (hN'.out _ hF.data).rs).mono ?_
 rintro _ w3 ⟨rfl, hbn⟩
 replace hF := hF.call hbn
 clear hbn
 go_wp2_with (first
  | go_skip
  | (refine aA rfl rfl hF ?_; clear hF; intro gg ww hF; simp only [nf] at hF)
  | (refine aB rfl rfl hF rfl ?_; clear hF; intro gg ww hF; simp only [nf] at hF)
  | (refine iL (t := 3) hF rfl rfl fun ho hx hb => ?_; refine aC (v := .int _ _) ho hb hx hF rfl rfl ?_; clear ho hx hb)
  | (refine iL hF rfl rfl fun ho hx hb => ?_; (first | refine aL ho hb hx hF rfl rfl ?_ | refine aC (v := .slice _ _ _) ho hb hx hF rfl rfl ?_ | refine aC (v := .string _) ho hb hx hF rfl rfl ?_ | refine aC (v := .bool _) ho hb hx hF rfl rfl ?_); clear ho hx hb)
  | (refine iS hF rfl rfl fun ho hx hb => ?_; (first | refine aS ho hb hx hF rfl rfl rfl rfl ?_ | refine aT (v := .int _ _) ho hb hx hF rfl rfl rfl rfl ?_ | refine aT (v := .slice _ _ _) ho hb hx hF rfl rfl rfl rfl ?_ | refine aT (v := .bool _) ho hb hx hF rfl rfl rfl rfl ?_); clear ho hx hb hF; intro ww hF; simp only [nf] at hF)
  )
 refine (ct.out _ (hN'.out _ hF.data)).mono ?_
 rintro _ w4 ⟨cs, rfl, hv, hbn⟩
 replace hF := hF.call hbn
 clear hbn
 go_wp2_with fail
 refine (rget_walk _ cs uAct _ sm_act (hv.low (Nat.zero_le _))).mono ?_
 rintro _ w5 ⟨ds, rfl, hd, hbn⟩
 replace hF := hF.call hbn
 clear hbn hv
 obtain ⟨NA, nc, A, c, rfl⟩ : ∃ NA nc A c, ds = cells6 2 false 0 [] NA 0 nc A 0 c := by
  have hd' : JvV w5 0 (.mk 2 false 0 [] [] []) ds := hd
  rw [JvV] at hd'
  obtain ⟨NA, nc, A, c, vs, h, _⟩ := hd'
  exact ⟨NA, nc, A, c, h⟩
 clear hd
 rw [show (getJ (objJ [uAct] [lfB false]) uAct).isSome = true from rfl, show (cells6 2 false 0 [] NA 0 nc A 0 c).toArray = c6 2 false 0 ⟨#[]⟩ NA 0 nc A 0 c from rfl]
 go_wp2_with (first
  | go_skip
  | (refine aA rfl rfl hF ?_; clear hF; intro gg ww hF; simp only [nf] at hF)
  | (refine aB rfl rfl hF rfl ?_; clear hF; intro gg ww hF; simp only [nf] at hF)
  | (refine iL (t := 3) hF rfl rfl fun ho hx hb => ?_; refine aC (v := .int _ _) ho hb hx hF rfl rfl ?_; clear ho hx hb)
  | (refine iL hF rfl rfl fun ho hx hb => ?_; (first | refine aL ho hb hx hF rfl rfl ?_ | refine aC (v := .slice _ _ _) ho hb hx hF rfl rfl ?_ | refine aC (v := .string _) ho hb hx hF rfl rfl ?_ | refine aC (v := .bool _) ho hb hx hF rfl rfl ?_); clear ho hx hb)
  | (refine iS hF rfl rfl fun ho hx hb => ?_; (first | refine aS ho hb hx hF rfl rfl rfl rfl ?_ | refine aT (v := .int _ _) ho hb hx hF rfl rfl rfl rfl ?_ | refine aT (v := .slice _ _ _) ho hb hx hF rfl rfl rfl rfl ?_ | refine aT (v := .bool _) ho hb hx hF rfl rfl rfl rfl ?_); clear ho hx hb hF; intro ww hF; simp only [nf] at hF)
  | (refine iL hF rfl rfl fun ho hx hb => ?_; refine aQ (recC 1 1).arr ho hb hx hF rfl (gr_part (grN 1 1)) rfl ?_; clear ho hx hb)
  )
 refine (cm.out _ (hN'.out _ hF.data)).mono ?_
 rintro _ w6 ⟨cs, rfl, hv, hbn⟩
 replace hF := hF.call hbn
 clear hbn
 go_wp2_with fail
 refine (rtext_walk _ cs uIss _ sm_claims (hv.low (Nat.zero_le _))).mono ?_
 rintro _ w7 ⟨rfl, hbn⟩
 replace hF := hF.call hbn
 clear hbn hv
 rw [iss_1, show strV ((some [104, 116, 116, 112, 115, 58, 47, 47, 97, 115]).getD []) = .string ⟨#[104, 116, 116, 112, 115, 58, 47, 47, 97, 115]⟩ from rfl]
 go_wp2_with (first
  | go_skip
  | (refine aA rfl rfl hF ?_; clear hF; intro gg ww hF; simp only [nf] at hF)
  | (refine aB rfl rfl hF rfl ?_; clear hF; intro gg ww hF; simp only [nf] at hF)
  | (refine iL (t := 3) hF rfl rfl fun ho hx hb => ?_; refine aC (v := .int _ _) ho hb hx hF rfl rfl ?_; clear ho hx hb)
  | (refine iL hF rfl rfl fun ho hx hb => ?_; (first | refine aL ho hb hx hF rfl rfl ?_ | refine aC (v := .slice _ _ _) ho hb hx hF rfl rfl ?_ | refine aC (v := .string _) ho hb hx hF rfl rfl ?_ | refine aC (v := .bool _) ho hb hx hF rfl rfl ?_); clear ho hx hb)
  | (refine iS hF rfl rfl fun ho hx hb => ?_; (first | refine aS ho hb hx hF rfl rfl rfl rfl ?_ | refine aT (v := .int _ _) ho hb hx hF rfl rfl rfl rfl ?_ | refine aT (v := .slice _ _ _) ho hb hx hF rfl rfl rfl rfl ?_ | refine aT (v := .bool _) ho hb hx hF rfl rfl rfl rfl ?_); clear ho hx hb hF; intro ww hF; simp only [nf] at hF)
  )
 refine rgw [] _ hF (List.Sublist.refl _) fun hF => ?_
 refine tkf 0 rfl ?_
 try simp only [nrm, Act.put]
 refine tkf 1 rfl ?_
 try simp only [nrm, Act.put]
 refine tkf 2 rfl ?_
 try simp only [nrm, Act.put]
 refine tkc 3 3 [] (v := .int _ _) rfl rfl rfl rfl rfl ?_
 try simp only [nrm, Act.put]
 refine tkf 4 rfl ?_
 try simp only [nrm, Act.put]
 refine tkf 5 rfl ?_
 try simp only [nrm, Act.put]
 refine tkf 6 rfl ?_
 try simp only [nrm, Act.put]
 refine tkf 7 rfl ?_
 try simp only [nrm, Act.put]
 refine tkf 8 rfl ?_
 try simp only [nrm, Act.put]
 refine tkf 9 rfl ?_
 try simp only [nrm, Act.put]
 refine tkf 10 rfl ?_
 try simp only [nrm, Act.put]
 refine tkf 11 rfl ?_
 try simp only [nrm, Act.put]
 refine tkf 12 rfl ?_
 try simp only [nrm, Act.put]
 refine tkf 13 rfl ?_
 try simp only [nrm, Act.put]
 refine tkf 14 rfl ?_
 try simp only [nrm, Act.put]
 refine tkc 15 5 [] (v := .int _ _) rfl rfl rfl rfl rfl ?_
 try simp only [nrm, Act.put]
 refine tkf 16 rfl ?_
 try simp only [nrm, Act.put]
 refine tkf 17 rfl ?_
 try simp only [nrm, Act.put]
 refine tkf 18 rfl ?_
 try simp only [nrm, Act.put]
 refine tkf 19 rfl ?_
 try simp only [nrm, Act.put]
 refine tkc 20 5 [] (v := .bool _) rfl rfl rfl rfl rfl ?_
 try simp only [nrm, Act.put]
 refine tkf 21 rfl ?_
 try simp only [nrm, Act.put]
 refine tkf 22 rfl ?_
 try simp only [nrm, Act.put]
 refine tkf 23 rfl ?_
 try simp only [nrm, Act.put]
 refine tkf 24 rfl ?_
 try simp only [nrm, Act.put]
 refine tkf 25 rfl ?_
 try simp only [nrm, Act.put]
 refine tkf 26 rfl ?_
 try simp only [nrm, Act.put]
 refine tkf 27 rfl ?_
 try simp only [nrm, Act.put]
 refine tkb 28 0 [] rfl rfl rfl rfl rfl ?_
 try simp only [nrm, Act.put]
 refine tkf 29 rfl ?_
 try simp only [nrm, Act.put]
 refine tkc 30 1 [] (v := .int _ _) rfl rfl rfl rfl rfl ?_
 try simp only [nrm, Act.put]
 refine tkf 31 rfl ?_
 try simp only [nrm, Act.put]
 refine tkc 32 2 [] (v := .int _ _) rfl rfl rfl rfl rfl ?_
 try simp only [nrm, Act.put]
 refine tkf 36 rfl ?_
 try simp only [nrm, Act.put]
 refine tkc 37 0 [] (v := .slice _ _ _) rfl rfl rfl rfl rfl ?_
 try simp only [nrm, Act.put]
 refine tkf 38 rfl ?_
 try simp only [nrm, Act.put]
 refine rdw 33 rfl fun K hK => ?_
 rw [if_pos (by rfl)]
 go_simp
 go_at_call 16
 rw [show (grN 1 1).access = 104 from rfl]
 with_reducible refine (cd.out _ (hN'.out _ hF.data)).mono ?_
 rintro _ ww ⟨v2, rfl, ⟨cl2, CA2, cc2, UA2, uc2, RA2, rc2, rfl, hra2, hN2⟩, hbn⟩
 replace hF := hF.call hbn
 refine hK.out _ _ (HoldA.of (by assumption) _) (fun _ => ?_)
 clear hK K hbn
 try simp only [nrm, Act.put]
 clear hN2 hra2
 refine tkf 34 rfl ?_ (v := .slice RA2 L.length rc2) (hv := fun W => by unfold execOp; simp only [Act.eval]; exact congrArg (fun r => r.andThen fun a w' => Result.ok (Next.value a) w') (field_recs _ _ _ _ _ _ _ _ _ _ _ W))
 try simp only [nrm, Act.put]
 refine tkf 35 rfl ?_
 try simp only [nrm, Act.put]
 refine tkf 39 rfl ?_
 try simp only [nrm, Act.put]
 refine tkf 40 rfl ?_
 try simp only [nrm, Act.put]
 refine tkf 41 rfl ?_
 try simp only [nrm, Act.put]
 refine dnw ?_
 go_wp2_with (first
  | go_skip
  | (refine aA rfl rfl hF ?_; clear hF; intro gg ww hF; simp only [nf] at hF)
  | (refine aB rfl rfl hF rfl ?_; clear hF; intro gg ww hF; simp only [nf] at hF)
  | (refine iL (t := 3) hF rfl rfl fun ho hx hb => ?_; refine aC (v := .int _ _) ho hb hx hF rfl rfl ?_; clear ho hx hb)
  | (refine iL hF rfl rfl fun ho hx hb => ?_; (first | refine aL ho hb hx hF rfl rfl ?_ | refine aC (v := .slice _ _ _) ho hb hx hF rfl rfl ?_ | refine aC (v := .string _) ho hb hx hF rfl rfl ?_ | refine aC (v := .bool _) ho hb hx hF rfl rfl ?_); clear ho hx hb)
  | (refine iS hF rfl rfl fun ho hx hb => ?_; (first | refine aS ho hb hx hF rfl rfl rfl rfl ?_ | refine aT (v := .int _ _) ho hb hx hF rfl rfl rfl rfl ?_ | refine aT (v := .slice _ _ _) ho hb hx hF rfl rfl rfl rfl ?_ | refine aT (v := .bool _) ho hb hx hF rfl rfl rfl rfl ?_); clear ho hx hb hF; intro ww hF; simp only [nf] at hF)
  )
 go_ret
 exact ⟨rfl, hF.below⟩
end Go.Proofs.YtnhjgocdepbajaaGreat
