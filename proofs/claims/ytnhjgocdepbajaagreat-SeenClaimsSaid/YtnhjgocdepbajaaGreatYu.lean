/- SeenClaims: what is claimed of a code. Conditions: numbers that an int bears. -/
import Derived.Test.YtnhjgocdepbajaaGreatYs
set_option linter.unusedVariables false
set_option linter.unusedSimpArgs false
set_option maxRecDepth 20000
namespace Go.Proofs.YtnhjgocdepbajaaGreat
open Go.RowKit S19 C17 R
def wantV (m : Int) (u k : Int) : List Leaf := [lfT (uHtt ++ bs0.nm), lfT (userL bs0.us u), lfT (clientL bs0.cls k), lfI (untilI m 300), lfI m, lfT [110]]
theorem claims_want (m : Int) (k u : Int) : claimsJ bs0 m (recC k u) = objJ [uIss, uSub, uAud, uExp, uIat, uNon] (wantV m u k) := rfl
theorem until_le (m : Int) (h0 : 0 ≤ m) (h1 : m < 1099511627776) : 0 ≤ untilI m 300 ∧ untilI m 300 ≤ 1099511627776 := by
 rw [untilI]
 have : max (300 : Int) 0 = 300 := rfl
 rw [this]
 split <;> omega
theorem min_until (m : Int) (h0 : 0 ≤ m) (h1 : m < 1099511627776) : min (m + 300) 1099511627776 = untilI m 300 := by
 rw [untilI]
 have : max (300 : Int) 0 = 300 := rfl
 rw [this]
 split <;> omega
theorem may_leafI (n : Int) (h : 0 ≤ n ∧ n ≤ 1099511627776) : mayJ validL (lfI n).jv 1 = true := by
 have h1 : validL [] = true := by decide +kernel
 have h2 : -9007199254740992 ≤ n ∧ n ≤ 9007199254740992 := by omega
 simp [lfI, Leaf.jv, mayJ, aloneB, h1, h2]
theorem may_leafT (s : List UInt8) (h : validL s = true) : mayJ validL (lfT s).jv 1 = true := by
 simp [lfT, Leaf.jv, mayJ, aloneB, h]
theorem claims_may (m : Int) (h0 : 0 ≤ m) (h1 : m < 1099511627776) (k u : Int) (hk : In3 k) (hu : In2 u) : mayB (claimsJ bs0 m (recC k u)) = true := by
 have e1 := may_leafI _ (until_le m h0 h1)
 have e2 := may_leafI m (by omega)
 have e3 : mayJ validL (lfT (uHtt ++ bs0.nm)).jv 1 = true := may_leafT _ (by decide +kernel)
 have e4 : mayJ validL (lfT (userL bs0.us u)).jv 1 = true := may_leafT _ (by rcases hu with rfl | rfl <;> decide +kernel)
 have e5 : mayJ validL (lfT (clientL bs0.cls k)).jv 1 = true := may_leafT _ (by rcases hk with rfl | rfl | rfl <;> decide +kernel)
 have e6 : mayJ validL (lfT [110]).jv 1 = true := may_leafT _ (by decide +kernel)
 have e7 : [uIss, uSub, uAud, uExp, uIat, uNon].all validL = true := by decide +kernel
 have e8 : [uIss, uSub, uAud, uExp, uIat, uNon].Nodup := by decide +kernel
 have e9 : validL [] = true := by decide +kernel
 rw [claims_want, mayB, objJ, mayJ, aloneB, e7, e9]
 simp only [wantV, List.map_cons, List.map_nil, mayJs, e1, e2, e3, e4, e5, e6, e8]
 simp
theorem claims_sm (m : Int) (h0 : 0 ≤ m) (h1 : m < 1099511627776) (k u : Int) (hk : In3 k) (hu : In2 u) : smJ (claimsJ bs0 m (recC k u)) := by
 have hq := until_le m h0 h1
 have h4 : (userL bs0.us u).length ≤ 100000 := by rcases hu with rfl | rfl <;> decide +kernel
 have h5 : (clientL bs0.cls k).length ≤ 100000 := by rcases hk with rfl | rfl | rfl <;> decide +kernel
 rw [claims_want]
 simp only [objJ, wantV, lfT, lfI, Leaf.jv, List.map_cons, List.map_nil, smJ, smJs, List.length_cons, List.length_nil]
 refine ⟨by decide, by decide, by decide, by decide, by decide, by decide, ⟨by decide, by decide, by decide, by decide, by simp, by decide, trivial⟩, ⟨by decide, by decide, h4, by decide, by simp, by decide, trivial⟩, ⟨by decide, by decide, h5, by decide, by simp, by decide, trivial⟩, ⟨by decide, by omega, by decide, by decide, by simp, by decide, trivial⟩, ⟨by decide, by omega, by decide, by decide, by simp, by decide, trivial⟩, ⟨by decide, by decide, by decide, by decide, by simp, by decide, trivial⟩, trivial⟩
theorem find_code (k u : Int) : findO (R4 k u) 0 4 103 = some (recU k u) := rfl
set_option maxHeartbeats 16000000 in
theorem seenClaims_walk (n u now : Int) (w : World) (hn : -9223372036854775808 ≤ n ∧ n ≤ 9223372036854775807) (hu : -9223372036854775808 ≤ u ∧ u ≤ 9223372036854775807) (hnow : -9223372036854775808 ≤ now ∧ now ≤ 9223372036854775807) :
  Calls Tryz.prog 5 #[.int .i64 n, .int .i64 u, .int .i64 now] w fun e w' => e = .returned (.bool true) ∧ Below w.heap.size w w' := by
 have hF := Fr.nil w
 have c1 := Lib.hid (fun W => within23_walk n 3 W (by decide) (by decide) hn)
 have c2 := Lib.hid (fun W => within23_walk u 2 W (by decide) (by decide) hu)
 have c3 := Lib.hid (fun W => within23_walk now 1099511627776 W (by decide) (by decide) hnow)
 obtain ⟨i, hi, hi3⟩ : ∃ i : Nat, n % 3 = (i : Int) ∧ i < 3 := ⟨(n % 3).toNat, by omega, by omega⟩
 obtain ⟨j, hj, hj2⟩ : ∃ i : Nat, u % 2 = (i : Int) ∧ i < 2 := ⟨(u % 2).toNat, by omega, by omega⟩
 obtain ⟨m, hm, hm0, hm1⟩ : ∃ m : Int, now % 1099511627776 = m ∧ 0 ≤ m ∧ m < 1099511627776 := ⟨_, rfl, by omega, by omega⟩
 rw [hi] at c1
 rw [hj] at c2
 rw [hm] at c3
 clear hi hj hm hn hu hnow
 have k1 : True → IntKind.i64.wrap (1 + (i : Int)) = (i : Int) + 1 := fun _ => by rw [IntKind.wrap_i64]; omega
 have k2 : True → IntKind.i64.wrap (1 + (j : Int)) = (j : Int) + 1 := fun _ => by rw [IntKind.wrap_i64]; omega
 have k3 : True → wrap64 (1 + (i : Int)) = (i : Int) + 1 := fun _ => by unfold wrap64; omega
 have k4 : True → wrap64 (1 + (j : Int)) = (j : Int) + 1 := fun _ => by unfold wrap64; omega
 have hk3 : In3 ((i : Int) + 1) := by unfold In3; omega
 have hu2 : In2 ((j : Int) + 1) := by unfold In2; omega
 go_enter Tryz.func5, Tryz.ntmps5
 go_wp2_with fail
 refine (known23_walk _).mono ?_
 rintro _ w1 ⟨rfl, hbn⟩
 replace hF := hF.call hbn
 clear hbn
 go_wp2_with fail
 refine (c1.out _).mono ?_
 rintro _ w1 ⟨rfl, rfl⟩
 go_wp2_with fail
 refine (c2.out _).mono ?_
 rintro _ w1 ⟨rfl, rfl⟩
 go_wp2_with fail
 refine (c3.out _).mono ?_
 rintro _ w1 ⟨rfl, rfl⟩
 go_wp2_with fail
 refine (granted_walk _ _ hk3 hu2 _).mono ?_
 rintro _ w2 ⟨v, rfl, ⟨cl, CA, cc, UA, uc, RA, rc, rfl, hra, hN⟩, hbn⟩
 have hsm := cl_small (hN _ (Agr.refl _ _))
 have hst0 := hN _ (Agr.refl _ _)
 replace hF := (hF.call hbn).grow (kp_agr fun x hx => (hF.mem hx).2)
 have hN' : Hid (∀ W, (True ∧ Agr w1.heap.size w2 W) → StH bs0 (R4 ((i : Int) + 1) ((j : Int) + 1)) W cl CA cc UA uc RA rc) := fun W h => hN W h.2
 clear hbn hN hra
 obtain ⟨usr, husr⟩ : ∃ f, bs0.us[j]? = some f := ⟨_, List.getElem?_eq_getElem (show j < 2 from hj2)⟩
 have hcn : cl.length = 3 := by have := congrArg List.length hst0.pl; rw [List.length_map] at this; exact this
 obtain ⟨cli, hcli⟩ : ∃ f, cl[i]? = some f := ⟨_, List.getElem?_eq_getElem (by omega)⟩
 obtain ⟨ua, rfl⟩ : ∃ ad, UA = some ad := by obtain ⟨ad, h, _⟩ := hst0.us.2.2 (by decide); exact ⟨ad, h⟩
 obtain ⟨ca, rfl⟩ : ∃ ad, CA = some ad := by obtain ⟨ad, h, _⟩ := hst0.cls.2.1.2 (by omega); exact ⟨ad, h⟩
 have HU : Hid (∀ W, (True ∧ Agr w1.heap.size w2 W) → W.cell? (ua.add (j * 2)) = some (.string ⟨usr.nm.toArray⟩)) := fun W h => (us_two (hN'.out W h).us.2 husr).1
 have HC : Hid (∀ W, (True ∧ Agr w1.heap.size w2 W) → W.cell? (ca.add (i * 4)) = some (.string ⟨cli.id.toArray⟩)) := fun W h => (cl_four (hN'.out W h).cls.2.1 hcli).1
 have HV : Hid (wantV m ((j : Int) + 1) ((i : Int) + 1) = [lfT (uHtt ++ bs0.nm), lfT usr.nm, lfT cli.id, lfI (untilI m 300), lfI m, lfT [110]]) := by
  show _ = _
  have e1 : userL bs0.us ((j : Int) + 1) = usr.nm := by rw [userL, usAt_get husr]
  have e2 : clientL bs0.cls ((i : Int) + 1) = cli.id := by rw [clientL, clAt_get hst0 hcli]; rfl
  rw [wantV, e1, e2]
 have cm := fun W (hW : StH bs0 (R4 ((i : Int) + 1) ((j : Int) + 1)) W cl (some ca) cc (some ua) uc RA rc) => claims_walk bs0 (R4 ((i : Int) + 1) ((j : Int) + 1)) m cl (some ca) cc (some ua) uc RA rc W hW hsm.1 hsm.2.1 (recC ((i : Int) + 1) ((j : Int) + 1)) ⟨hm0, by omega⟩ (by decide)
 have cm := Lib.hid cm
 have HCN := Lib.hid hcn
 have hclm := Lib.hid hsm
 have cS := Lib.hid rs_walk
 have cI := Lib.hid ri_walk
 have cR := Lib.hid (fun W => right_walk ((i : Int) + 1) W (by omega))
 have hmin := Lib.hid (min_until m hm0 hm1)
 have HSM := Lib.hid (claims_sm m hm0 hm1 ((i : Int) + 1) ((j : Int) + 1) hk3 hu2)
 have HMY := Lib.hid (claims_may m hm0 hm1 ((i : Int) + 1) ((j : Int) + 1) hk3 hu2)
 have n1 : IntKind.i64.wrap ((i : Int) + 1 - 1) = (i : Int) := by rw [IntKind.wrap_i64]; omega
 have n2 : IntKind.i64.wrap ((j : Int) + 1 - 1) = (j : Int) := by rw [IntKind.wrap_i64]; omega
 have n3 : (i : Int) < (cl.length : Int) := by omega
 have n4 : (j : Int) < (bs0.us.length : Int) := by show (j : Int) < 2; omega
 have n5 : (i : Int) + 1 - 1 = (i : Int) := by omega
 have n6 : (j : Int) + 1 - 1 = (j : Int) := by omega
 have n7 : IntKind.i64.wrap (i : Int) = (i : Int) := by rw [IntKind.wrap_i64]; omega
 have n8 : IntKind.i64.wrap (j : Int) = (j : Int) := by rw [IntKind.wrap_i64]; omega
 have n9 : IntKind.i64.wrap (m + 300) = m + 300 := by rw [IntKind.wrap_i64]; omega
 have n10 : i < cl.length := by omega
 have n11 : j < bs0.us.length := hj2
 clear hst0 hsm husr hcli hcn k1 k2 k3 k4
 go_wp2_with (first
  | go_skip
  | (refine aA rfl rfl hF ?_; clear hF; intro gg ww hF; simp only [nf] at hF)
  | (refine aB rfl rfl hF rfl ?_; clear hF; intro gg ww hF; simp only [nf] at hF)
  | (refine iL (t := 3) hF rfl rfl fun ho hx hb => ?_; refine aC (v := .int _ _) ho hb hx hF rfl rfl ?_; clear ho hx hb)
  | (refine iL hF rfl rfl fun ho hx hb => ?_; (first | refine aL ho hb hx hF rfl rfl ?_ | refine aC (v := .slice _ _ _) ho hb hx hF rfl rfl ?_ | refine aC (v := .string _) ho hb hx hF rfl rfl ?_ | refine aC (v := .bool _) ho hb hx hF rfl rfl ?_); clear ho hx hb)
  | (refine iS hF rfl rfl fun ho hx hb => ?_; (first | refine aS ho hb hx hF rfl rfl rfl rfl ?_ | refine aT (v := .int _ _) ho hb hx hF rfl rfl rfl rfl ?_ | refine aT (v := .slice _ _ _) ho hb hx hF rfl rfl rfl rfl ?_ | refine aT (v := .bool _) ho hb hx hF rfl rfl rfl rfl ?_); clear ho hx hb hF; intro ww hF; simp only [nf] at hF)
  | (refine iL hF rfl rfl fun ho hx hb => ?_; refine aQ (recC ((i : Int) + 1) ((j : Int) + 1)).arr ho hb hx hF rfl (gr_part (grN ((i : Int) + 1) ((j : Int) + 1))) rfl ?_; clear ho hx hb)
  )
 refine (cm.out _ (hN'.out _ hF.data)).mono ?_
 rintro _ w3 ⟨cs, rfl, hv, hbn⟩
 obtain ⟨k0, b0, n0, s0, NA0, nn0, nc0, A0, m0, c0, rfl⟩ := hv.form
 replace hF := (hF.call hbn).grow (kp_jv hv fun x hx => (hF.mem hx).2)
 clear hbn hv cm
 go_wp2_with (first
  | go_skip
  | (refine aA rfl rfl hF ?_; clear hF; intro gg ww hF; simp only [nf] at hF)
  | (refine aB rfl rfl hF rfl ?_; clear hF; intro gg ww hF; simp only [nf] at hF)
  | (refine iL (t := 3) hF rfl rfl fun ho hx hb => ?_; refine aC (v := .int _ _) ho hb hx hF rfl rfl ?_; clear ho hx hb)
  | (refine iL hF rfl rfl fun ho hx hb => ?_; (first | refine aL ho hb hx hF rfl rfl ?_ | refine aC (v := .slice _ _ _) ho hb hx hF rfl rfl ?_ | refine aC (v := .string _) ho hb hx hF rfl rfl ?_ | refine aC (v := .bool _) ho hb hx hF rfl rfl ?_); clear ho hx hb)
  | (refine iS hF rfl rfl fun ho hx hb => ?_; (first | refine aS ho hb hx hF rfl rfl rfl rfl ?_ | refine aT (v := .int _ _) ho hb hx hF rfl rfl rfl rfl ?_ | refine aT (v := .slice _ _ _) ho hb hx hF rfl rfl rfl rfl ?_ | refine aT (v := .bool _) ho hb hx hF rfl rfl rfl rfl ?_); clear ho hx hb hF; intro ww hF; simp only [nf] at hF)
  )
 refine rgw [] _ hF (List.Sublist.refl _) fun hF => ?_
 refine tkf 2 rfl ?_
 try simp only [nrm, Act.put]
 refine tkc 3 0 [] (v := .slice _ _ _) rfl rfl rfl rfl rfl ?_
 try simp only [nrm, Act.put]
 refine tkf 4 rfl ?_
 try simp only [nrm, Act.put]
 refine tkf 5 rfl ?_
 try simp only [nrm, Act.put]
 refine tkf 6 rfl ?_
 try simp only [nrm, Act.put]
 refine tkf 7 rfl ?_
 try simp only [nrm, Act.put]
 refine tkw 8 [] rfl ?_ (v := .string ⟨usr.nm.toArray⟩) (hv := fun W hW => exec_at (t' := 9) rfl rfl (HU.out W hW.data.1))
 try simp only [nrm, Act.put]
 refine tkf 10 rfl ?_
 try simp only [nrm, Act.put]
 refine tkc 11 0 [] (v := .slice _ _ _) rfl rfl rfl rfl rfl ?_
 try simp only [nrm, Act.put]
 refine tkf 12 rfl ?_
 try simp only [nrm, Act.put]
 refine tkf 13 rfl ?_
 try simp only [nrm, Act.put]
 refine tkf 14 rfl ?_
 try simp only [nrm, Act.put]
 refine tkf 15 rfl ?_
 try simp only [nrm, Act.put]
 refine tkw 16 [] rfl ?_ (v := .string ⟨cli.id.toArray⟩) (hv := fun W hW => exec_at (t' := 9) rfl rfl (HC.out W hW.data.1))
 try simp only [nrm, Act.put]
 refine tkf 18 rfl ?_
 try simp only [nrm, Act.put]
 refine tkf 19 rfl ?_
 try simp only [nrm, Act.put]
 refine tkf 20 rfl ?_ (v := .int .i64 (untilI m 300)) (hv := by intro W; rw [← hmin.out]; go_simp)
 try simp only [nrm, Act.put]
 refine tkf 22 rfl ?_
 try simp only [nrm, Act.put]
 refine tkf 24 rfl ?_
 try simp only [nrm, Act.put]
 refine Lane.open_ [⟨0, 41, 9, (strVs [uIss, uSub, uAud, uExp, uIat, uNon]).toArray, fun g => .slice (some ⟨g, 0, none⟩) 6 6⟩, ⟨30, 15, 48, vZ, fun g => .pointer (some ⟨g, 0, none⟩)⟩] 11 ⟨⟨_, rfl, rfl, rfl, fun _ _ => by kernel_rfl⟩, ⟨_, rfl, rfl, rfl, fun _ _ => by kernel_rfl⟩, trivial⟩ ?_ hF
 refine Lane.call 1 23 #[.string ⟨#[104, 116, 116, 112, 115, 58, 47, 47, 97, 115]⟩] (.agg (c6s ⟨#[104, 116, 116, 112, 115, 58, 47, 47, 97, 115]⟩)) rfl rfl (by intro s hs W; rcases s with _ | ⟨x, _ | ⟨y, _ | ⟨z, s⟩⟩⟩ <;> simp at hs <;> cases x <;> cases y <;> kernel_rfl) (fun W hW => cS.out _ W) ?_
 try simp only [nrm, Act.put]
 refine Lane.call 9 23 #[.string ⟨usr.nm.toArray⟩] (.agg (c6s ⟨usr.nm.toArray⟩)) rfl rfl (by intro s hs W; rcases s with _ | ⟨x, _ | ⟨y, _ | ⟨z, s⟩⟩⟩ <;> simp at hs <;> cases x <;> cases y <;> kernel_rfl) (fun W hW => cS.out _ W) ?_
 try simp only [nrm, Act.put]
 refine Lane.call 17 23 #[.string ⟨cli.id.toArray⟩] (.agg (c6s ⟨cli.id.toArray⟩)) rfl rfl (by intro s hs W; rcases s with _ | ⟨x, _ | ⟨y, _ | ⟨z, s⟩⟩⟩ <;> simp at hs <;> cases x <;> cases y <;> kernel_rfl) (fun W hW => cS.out _ W) ?_
 try simp only [nrm, Act.put]
 refine Lane.call 21 24 #[.int .i64 (untilI m 300)] (.agg (c6i (untilI m 300))) rfl rfl (by intro s hs W; rcases s with _ | ⟨x, _ | ⟨y, _ | ⟨z, s⟩⟩⟩ <;> simp at hs <;> cases x <;> cases y <;> kernel_rfl) (fun W hW => cI.out _ W) ?_
 try simp only [nrm, Act.put]
 refine Lane.call 23 24 #[.int .i64 m] (.agg (c6i m)) rfl rfl (by intro s hs W; rcases s with _ | ⟨x, _ | ⟨y, _ | ⟨z, s⟩⟩⟩ <;> simp at hs <;> cases x <;> cases y <;> kernel_rfl) (fun W hW => cI.out _ W) ?_
 try simp only [nrm, Act.put]
 refine Lane.call 25 25 #[.int .i64 ((i : Int) + 1)] (.agg (rightW ((i : Int) + 1)).arr) rfl rfl (by intro s hs W; rcases s with _ | ⟨x, _ | ⟨y, _ | ⟨z, s⟩⟩⟩ <;> simp at hs <;> cases x <;> cases y <;> kernel_rfl) (fun W hW => cR.out W) ?_
 try simp only [nrm, Act.put]
 refine Lane.val 26 (.string ⟨#[110]⟩) rfl rfl (by intro s hs W _; rcases s with _ | ⟨x, _ | ⟨y, _ | ⟨z, s⟩⟩⟩ <;> simp at hs <;> cases x <;> cases y <;> kernel_rfl) ?_
 try simp only [nrm, Act.put]
 refine Lane.call 27 23 #[.string ⟨#[110]⟩] (.agg (c6s ⟨#[110]⟩)) rfl rfl (by intro s hs W; rcases s with _ | ⟨x, _ | ⟨y, _ | ⟨z, s⟩⟩⟩ <;> simp at hs <;> cases x <;> cases y <;> kernel_rfl) (fun W hW => cS.out _ W) ?_
 try simp only [nrm, Act.put]
 refine Lane.make 28 48 (leafCells [lfT (uHtt ++ bs0.nm), lfT usr.nm, lfT cli.id, lfI (untilI m 300), lfI m, lfT [110]]).toArray (fun g => .slice (some ⟨g, 0, none⟩) 6 6) rfl rfl (by intro s hs W; rcases s with _ | ⟨x, _ | ⟨y, _ | ⟨z, s⟩⟩⟩ <;> simp at hs <;> cases x <;> cases y <;> kernel_rfl) ?_
 intro g1
 try simp only [nrm, Act.put]
 refine Lane.force ?_
 intro g2
 try simp only [nrm, Act.put]
 refine Lane.call 29 22 #[.slice (some ⟨g2, 0, none⟩) 6 6, .slice (some ⟨g1, 0, none⟩) 6 6] (.agg (c6 6 false 0 ⟨#[]⟩ (some ⟨g2, 0, none⟩) 6 6 (some ⟨g1, 0, none⟩) 6 6)) rfl rfl (by intro s hs W; rcases s with _ | ⟨x, _ | ⟨y, s⟩⟩ <;> simp at hs <;> cases x <;> kernel_rfl) (fun W hW => ro_walk _ _ _ _ _ _ W) ?_
 try simp only [nrm, Act.put]
 refine Lane.force ?_
 intro g3
 try simp only [nrm, Act.put]
 refine Lane.close ?_
 clear hF
 intro ww hF
 simp only [nf] at hF
 refine stw 31 6 hF rfl rfl rfl rfl rfl rfl rfl rfl ?_
 clear hF; intro ww hF; simp only [nf] at hF
 try simp only [nrm, Act.put]
 refine dnw ?_
 go_wp2_with (first
  | go_skip
  | (refine aA rfl rfl hF ?_; clear hF; intro gg ww hF; simp only [nf] at hF)
  | (refine aB rfl rfl hF rfl ?_; clear hF; intro gg ww hF; simp only [nf] at hF)
  | (refine iL (t := 3) hF rfl rfl fun ho hx hb => ?_; refine aC (v := .int _ _) ho hb hx hF rfl rfl ?_; clear ho hx hb)
  | (refine iL hF rfl rfl fun ho hx hb => ?_; (first | refine aL ho hb hx hF rfl rfl ?_ | refine aC (v := .slice _ _ _) ho hb hx hF rfl rfl ?_ | refine aC (v := .string _) ho hb hx hF rfl rfl ?_ | refine aC (v := .bool _) ho hb hx hF rfl rfl ?_); clear ho hx hb)
  | (refine iS hF rfl rfl fun ho hx hb => ?_; (first | refine aS ho hb hx hF rfl rfl rfl rfl ?_ | refine aT (v := .int _ _) ho hb hx hF rfl rfl rfl rfl ?_ | refine aT (v := .slice _ _ _) ho hb hx hF rfl rfl rfl rfl ?_ | refine aT (v := .bool _) ho hb hx hF rfl rfl rfl rfl ?_); clear ho hx hb hF; intro ww hF; simp only [nf] at hF)
  )
 refine (rfind_walk (R4 ((i : Int) + 1) ((j : Int) + 1)) RA rc 0 4 103 _ (hN'.out _ hF.data.1).rs).mono ?_
 rintro _ w4 ⟨rfl, hbn⟩
 replace hF := hF.call hbn
 clear hbn
 rw [find_code]
 go_wp2_with (first
  | go_skip
  | (refine aA rfl rfl hF ?_; clear hF; intro gg ww hF; simp only [nf] at hF)
  | (refine aB rfl rfl hF rfl ?_; clear hF; intro gg ww hF; simp only [nf] at hF)
  | (refine iL (t := 3) hF rfl rfl fun ho hx hb => ?_; refine aC (v := .int _ _) ho hb hx hF rfl rfl ?_; clear ho hx hb)
  | (refine iL hF rfl rfl fun ho hx hb => ?_; (first | refine aL ho hb hx hF rfl rfl ?_ | refine aC (v := .slice _ _ _) ho hb hx hF rfl rfl ?_ | refine aC (v := .string _) ho hb hx hF rfl rfl ?_ | refine aC (v := .bool _) ho hb hx hF rfl rfl ?_); clear ho hx hb)
  | (refine iS hF rfl rfl fun ho hx hb => ?_; (first | refine aS ho hb hx hF rfl rfl rfl rfl ?_ | refine aT (v := .int _ _) ho hb hx hF rfl rfl rfl rfl ?_ | refine aT (v := .slice _ _ _) ho hb hx hF rfl rfl rfl rfl ?_ | refine aT (v := .bool _) ho hb hx hF rfl rfl rfl rfl ?_); clear ho hx hb hF; intro ww hF; simp only [nf] at hF)
  )
 have hw : JvV _ 0 (objJ [uIss, uSub, uAud, uExp, uIat, uNon] [lfT (uHtt ++ bs0.nm), lfT usr.nm, lfT cli.id, lfI (untilI m 300), lfI m, lfT [110]]) _ := obj_v (nc := 6) (c := 6) (hF.blk 5 _ rfl).2 (hF.blk 4 _ rfl).2 (by decide) (Nat.le_of_ble_eq_true rfl) (by decide) ⟨Nat.le_refl _, Nat.le_of_ble_eq_true rfl⟩
 have hvv := hF.data.2.low (Nat.zero_le _)
 have hsj : sameJ (claimsJ bs0 m (recC ((i : Int) + 1) ((j : Int) + 1))) (objJ [uIss, uSub, uAud, uExp, uIat, uNon] [lfT (uHtt ++ bs0.nm), lfT usr.nm, lfT cli.id, lfI (untilI m 300), lfI m, lfT [110]]) = true := by
  rw [sameJ_iff, claims_want, HV.out]
 refine (rsame_all _ _ _ _ _ hvv hw).mono ?_
 rintro _ w5 ⟨rfl, hbn⟩
 rw [hsj]
 replace hF := hF.call hbn
 clear hbn hw hvv hsj
 go_wp2_with (first
  | go_skip
  | (refine aA rfl rfl hF ?_; clear hF; intro gg ww hF; simp only [nf] at hF)
  | (refine aB rfl rfl hF rfl ?_; clear hF; intro gg ww hF; simp only [nf] at hF)
  | (refine iL (t := 3) hF rfl rfl fun ho hx hb => ?_; refine aC (v := .int _ _) ho hb hx hF rfl rfl ?_; clear ho hx hb)
  | (refine iL hF rfl rfl fun ho hx hb => ?_; (first | refine aL ho hb hx hF rfl rfl ?_ | refine aC (v := .slice _ _ _) ho hb hx hF rfl rfl ?_ | refine aC (v := .string _) ho hb hx hF rfl rfl ?_ | refine aC (v := .bool _) ho hb hx hF rfl rfl ?_); clear ho hx hb)
  | (refine iS hF rfl rfl fun ho hx hb => ?_; (first | refine aS ho hb hx hF rfl rfl rfl rfl ?_ | refine aT (v := .int _ _) ho hb hx hF rfl rfl rfl rfl ?_ | refine aT (v := .slice _ _ _) ho hb hx hF rfl rfl rfl rfl ?_ | refine aT (v := .bool _) ho hb hx hF rfl rfl rfl rfl ?_); clear ho hx hb hF; intro ww hF; simp only [nf] at hF)
  )
 refine (rmaym_walk _ _ _ HSM.out (hF.data.2.low (Nat.zero_le _))).mono ?_
 rintro _ w6 ⟨rfl, hbn⟩
 rw [HMY.out]
 replace hF := hF.call hbn
 clear hbn
 go_wp2_with (first
  | go_skip
  | (refine aA rfl rfl hF ?_; clear hF; intro gg ww hF; simp only [nf] at hF)
  | (refine aB rfl rfl hF rfl ?_; clear hF; intro gg ww hF; simp only [nf] at hF)
  | (refine iL (t := 3) hF rfl rfl fun ho hx hb => ?_; refine aC (v := .int _ _) ho hb hx hF rfl rfl ?_; clear ho hx hb)
  | (refine iL hF rfl rfl fun ho hx hb => ?_; (first | refine aL ho hb hx hF rfl rfl ?_ | refine aC (v := .slice _ _ _) ho hb hx hF rfl rfl ?_ | refine aC (v := .string _) ho hb hx hF rfl rfl ?_ | refine aC (v := .bool _) ho hb hx hF rfl rfl ?_); clear ho hx hb)
  | (refine iS hF rfl rfl fun ho hx hb => ?_; (first | refine aS ho hb hx hF rfl rfl rfl rfl ?_ | refine aT (v := .int _ _) ho hb hx hF rfl rfl rfl rfl ?_ | refine aT (v := .slice _ _ _) ho hb hx hF rfl rfl rfl rfl ?_ | refine aT (v := .bool _) ho hb hx hF rfl rfl rfl rfl ?_); clear ho hx hb hF; intro ww hF; simp only [nf] at hF)
  )
 go_ret
 exact ⟨rfl, hF.below⟩
end Go.Proofs.YtnhjgocdepbajaaGreat
