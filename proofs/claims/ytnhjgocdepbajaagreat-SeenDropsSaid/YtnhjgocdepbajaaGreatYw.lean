/- SeenDrops: what a client drops, and what another one does not. Conditions: numbers that an int bears. -/
import Derived.Test.YtnhjgocdepbajaaGreatYv
set_option linter.unusedVariables false
set_option linter.unusedSimpArgs false
set_option maxRecDepth 20000
namespace Go.Proofs.YtnhjgocdepbajaaGreat
open Go.RowKit S19 C17 R
def bxG : List Bx → Nat → Nat
 | x :: _, 0 => x.1
 | _ :: l, i + 1 => bxG l i
 | [], _ => 0
theorem info_int23 : (Tryz.prog.info? 3).map (fun i => (i.zero, i.size, i.bytes)) = some (some (.int .i64 0), 1, 8) := by kernel_rfl
instance {k : Int} {q : Nat} : Ones (gN k q).arr := inferInstance
set_option maxHeartbeats 32000000 in
theorem seenDrops_walk (n m which turns : Int) (w : World) (hn : -9223372036854775808 ≤ n ∧ n ≤ 9223372036854775807) (hm : -9223372036854775808 ≤ m ∧ m ≤ 9223372036854775807) (hwh : -9223372036854775808 ≤ which ∧ which ≤ 9223372036854775807) (htu : -9223372036854775808 ≤ turns ∧ turns ≤ 9223372036854775807) :
  Calls Tryz.prog 4 #[.int .i64 n, .int .i64 m, .int .i64 which, .int .i64 turns] w fun e w' => e = .returned (.bool true) ∧ Below w.heap.size w w' := by
 have hF := Fr.nil w
 obtain ⟨fo, hfo, hf0, hf1, hf2⟩ := K9.info_parts4 info_int23
 have c1 := Lib.hid (fun W => within23_walk n 3 W (by decide) (by decide) hn)
 have c2 := Lib.hid (fun W => within23_walk m 3 W (by decide) (by decide) hm)
 have c3 := Lib.hid (fun W => within23_walk turns 4 W (by decide) (by decide) htu)
 have c4 := Lib.hid (fun (z : Int) W (h0 : 1 ≤ z) (h1 : z ≤ 9223372036854775807) => within23_walk which z W h0 h1 hwh)
 obtain ⟨i, hi, hi3⟩ : ∃ i : Nat, n % 3 = (i : Int) ∧ i < 3 := ⟨(n % 3).toNat, by omega, by omega⟩
 obtain ⟨j, hj, hj3⟩ : ∃ i : Nat, m % 3 = (i : Int) ∧ i < 3 := ⟨(m % 3).toNat, by omega, by omega⟩
 obtain ⟨T, hT, hT4⟩ : ∃ i : Nat, turns % 4 = (i : Int) ∧ i < 4 := ⟨(turns % 4).toNat, by omega, by omega⟩
 rw [hi] at c1
 rw [hj] at c2
 rw [hT] at c3
 clear hi hj hT hn hm hwh htu
 have k1 : True → IntKind.i64.wrap (1 + (i : Int)) = (i : Int) + 1 := fun _ => by rw [IntKind.wrap_i64]; omega
 have k2 : True → IntKind.i64.wrap (1 + (j : Int)) = (j : Int) + 1 := fun _ => by rw [IntKind.wrap_i64]; omega
 have k3 : True → wrap64 (1 + (i : Int)) = (i : Int) + 1 := fun _ => by unfold wrap64; omega
 have k4 : True → wrap64 (1 + (j : Int)) = (j : Int) + 1 := fun _ => by unfold wrap64; omega
 have hk3 : In3 ((i : Int) + 1) := by unfold In3; omega
 go_enter Tryz.func4, Tryz.ntmps4
 go_wp2_with fail
 refine (known23_walk _).mono ?_
 rintro _ w1 ⟨rfl, hbn⟩
 replace hF := hF.call hbn
 clear hbn
 go_wp2_with fail
 refine (c1.out _).mono ?_
 rintro _ w1 ⟨rfl, rfl⟩
 go_wp2_with fail
 refine (c2.out _).mono ?_
 rintro _ w1 ⟨rfl, rfl⟩
 go_wp2_with fail
 refine (granted_walk _ _ hk3 (.inl rfl) _).mono ?_
 rintro _ w2 ⟨v, rfl, ⟨cl, CA, cc, UA, uc, RA, rc, rfl, hra, hN⟩, hbn⟩
 have hsm := cl_small (hN _ (Agr.refl _ _))
 replace hF := (hF.call hbn).grow (kp_agr fun x hx => (hF.mem hx).2)
 generalize hkk : (i : Int) + 1 = k at *
 generalize hjj : (j : Int) + 1 = jj at *
 have hN' : Hid (∀ W, (True ∧ Agr w1.heap.size w2 W) → StH bs0 (RN k 0) W cl CA cc UA uc RA rc) := fun W h => hN W h.2
 replace hF := hF.weak (D2 := fun W => (True ∧ Agr w1.heap.size w2 W) ∧ RecsAt W RA rc (RN k 0)) fun W h => ⟨h, (hN'.out W h).rs⟩
 clear hbn hN hra k1 k2 k3 k4
 rw [show [recS 1, recU k 1, recA k 1, recR k 1].length = (RN k 0).length from rfl, show (grN k 1) = gN k 0 from rfl, show (⟨106, 1, 0⟩ : Sr) = srN 0 from rfl]
 go_wp2_with (first
  | go_skip
  | (refine aA rfl rfl hF ?_; clear hF; intro gg ww hF; simp only [nf] at hF)
  | (refine aB rfl rfl hF rfl ?_; clear hF; intro gg ww hF; simp only [nf] at hF)
  | (refine iL (t := 3) hF rfl rfl fun ho hx hb => ?_; refine aC (v := .int _ _) ho hb hx hF rfl rfl ?_; clear ho hx hb)
  | (refine iL hF rfl rfl fun ho hx hb => ?_; (first | refine aL ho hb hx hF rfl rfl ?_ | refine aC (v := .slice _ _ _) ho hb hx hF rfl rfl ?_ | refine aC (v := .string _) ho hb hx hF rfl rfl ?_ | refine aC (v := .bool _) ho hb hx hF rfl rfl ?_); clear ho hx hb)
  | (refine iS hF rfl rfl fun ho hx hb => ?_; (first | refine aS ho hb hx hF rfl rfl rfl rfl ?_ | refine aT (v := .int _ _) ho hb hx hF rfl rfl rfl rfl ?_ | refine aT (v := .slice _ _ _) ho hb hx hF rfl rfl rfl rfl ?_ | refine aT (v := .bool _) ho hb hx hF rfl rfl rfl rfl ?_); clear ho hx hb hF; intro ww hF; simp only [nf] at hF)
  | (refine aD (keyR 0).toArray 3 2 rfl (fun _ => by kernel_rfl) rfl hF ?_; clear hF; intro gg ww hF; simp only [nf] at hF)
  )
 obtain ⟨bL, hbL, hF0⟩ := hF.named
 have HBL := Lib.hid hbL
 have hrenew : Hid (∀ (q : Nat) (hq : q < 3) (RA : Option Addr) (rc : Nat) (W : World) (hW : RecsAt W RA rc (RN k q)), Calls Tryz.prog 21 #[.agg (stA bs0.nm bs0.key CA cl.length cc UA bs0.us.length uc RA (RN k q).length rc), .agg (srN q).arr, .int .i64 k, .int .i64 (gN k q).refresh, .string ⟨#[]⟩] W (IssR bs0 cl CA cc UA uc RA rc (RN k q) (RN k (q + 1), srN (q + 1), gN k (q + 1), 0) W)) := by
  intro q hq RA rc W hW
  have h := rrenew_walk bs0 (RN k q) (srN q) k (gN k q).refresh ⟨#[]⟩ cl CA cc UA uc RA rc W hW (by rw [rn_len]; omega) ⟨by show (0 : Int) ≤ 106 + 2 * (q : Int); omega, by show (106 : Int) + 2 * (q : Int) ≤ 1500000000; omega⟩ ⟨by show (0 : Int) ≤ 0; decide, by show (0 : Int) ≤ 1000000000; decide⟩ (by decide) (rn_small k q)
  rw [ev_renew k q hq] at h
  exact h
 clear hbL hF
 go_loopw [15, 16] (fun av iv wr => ∃ (q : Nat) (RA : Option Addr) (rc : Nat) (ga : Nat) (cs : Array Value) (cap : Nat), q ≤ T ∧ av = .slice (some ⟨ga, 0, none⟩) (2 * q + 2) cap ∧ iv = .int .i64 q ∧ Hid (cs.size = cap ∧ cs.toList.take (2 * q + 2) = keyR q ∧ 2 * q + 2 ≤ cap ∧ cap ≤ maxLen) ∧ Fr w wr [(bxG bL 0, 31, stA bs0.nm bs0.key CA cl.length cc UA bs0.us.length uc RA (RN k q).length rc), (bxG bL 1, 33, (srN q).arr), (bxG bL 2, 55, (gN k q).arr), (ga, 3, cs)] (fun W => (True ∧ Agr w1.heap.size w2 W) ∧ RecsAt W RA rc (RN k q))) (fun _ iv _ => T - (intOf iv).toNat)
 case atStart =>
  have hbL := HBL.out
  subst hbL
  simp only [bxG]
  exact ⟨0, RA, rc, _, _, _, by omega, rfl, rfl, ⟨rfl, rfl, by decide, by decide⟩, hF0⟩
 case round =>
  clear hF0
  obtain ⟨q, RA, rc, ga, cs, cap, hq, rfl, rfl, HC, hF⟩ := hrel
  have hbL := HBL.out
  subst hbL
  simp only [bxG] at hF
  go_wp2_with (first
   | go_skip
   | (refine aA rfl rfl hF ?_; clear hF; intro gg ww hF; simp only [nf] at hF)
   | (refine aB rfl rfl hF rfl ?_; clear hF; intro gg ww hF; simp only [nf] at hF)
   | (refine iL (t := 3) hF rfl rfl fun ho hx hb => ?_; refine aC (v := .int _ _) ho hb hx hF rfl rfl ?_; clear ho hx hb)
   | (refine iL hF rfl rfl fun ho hx hb => ?_; (first | refine aL ho hb hx hF rfl rfl ?_ | refine aC (v := .slice _ _ _) ho hb hx hF rfl rfl ?_ | refine aC (v := .string _) ho hb hx hF rfl rfl ?_ | refine aC (v := .bool _) ho hb hx hF rfl rfl ?_); clear ho hx hb)
   | (refine iS hF rfl rfl fun ho hx hb => ?_; (first | refine aS ho hb hx hF rfl rfl rfl rfl ?_ | refine aT (v := .int _ _) ho hb hx hF rfl rfl rfl rfl ?_ | refine aT (v := .slice _ _ _) ho hb hx hF rfl rfl rfl rfl ?_ | refine aT (v := .bool _) ho hb hx hF rfl rfl rfl rfl ?_); clear ho hx hb hF; intro ww hF; simp only [nf] at hF)
   )
  refine (c3.out _).mono ?_
  rintro _ w3 ⟨rfl, rfl⟩
  by_cases hlt : q < T
  ·
   have hlt2 : (q : Int) < (T : Int) := by omega
   have cr := Lib.hid (fun RA rc W hW => hrenew.out q (by omega) RA rc W hW)
   have hwk : IntKind.i64.wrap ((q : Int) + 1) = ((q + 1 : Nat) : Int) := by rw [IntKind.wrap_i64]; omega
   go_wp2_with (first
    | go_skip
    | (refine aA rfl rfl hF ?_; clear hF; intro gg ww hF; simp only [nf] at hF)
    | (refine aB rfl rfl hF rfl ?_; clear hF; intro gg ww hF; simp only [nf] at hF)
    | (refine iL (t := 3) hF rfl rfl fun ho hx hb => ?_; refine aC (v := .int _ _) ho hb hx hF rfl rfl ?_; clear ho hx hb)
    | (refine iL hF rfl rfl fun ho hx hb => ?_; (first | refine aL ho hb hx hF rfl rfl ?_ | refine aC (v := .slice _ _ _) ho hb hx hF rfl rfl ?_ | refine aC (v := .string _) ho hb hx hF rfl rfl ?_ | refine aC (v := .bool _) ho hb hx hF rfl rfl ?_); clear ho hx hb)
    | (refine iS hF rfl rfl fun ho hx hb => ?_; (first | refine aS ho hb hx hF rfl rfl rfl rfl ?_ | refine aT (v := .int _ _) ho hb hx hF rfl rfl rfl rfl ?_ | refine aT (v := .slice _ _ _) ho hb hx hF rfl rfl rfl rfl ?_ | refine aT (v := .bool _) ho hb hx hF rfl rfl rfl rfl ?_); clear ho hx hb hF; intro ww hF; simp only [nf] at hF)
    )
   refine (cr.out _ _ _ hF.data.2).mono ?_
   rintro _ ww ⟨v2, rfl, A1, c1, rfl, hr1, hn1, hbn⟩
   replace hF := hF.rows hbn hr1 hn1 (fun W h => h.2)
   replace hF := hF.weak (D2 := fun W => (True ∧ Agr w1.heap.size w2 W) ∧ RecsAt W A1 c1 (RN k (q + 1))) fun W h => ⟨h.1.1, h.2⟩
   clear hbn hr1 hn1
   go_wp2_with (first
    | go_skip
    | (refine aA rfl rfl hF ?_; clear hF; intro gg ww hF; simp only [nf] at hF)
    | (refine aB rfl rfl hF rfl ?_; clear hF; intro gg ww hF; simp only [nf] at hF)
    | (refine iL (t := 3) hF rfl rfl fun ho hx hb => ?_; refine aC (v := .int _ _) ho hb hx hF rfl rfl ?_; clear ho hx hb)
    | (refine iL hF rfl rfl fun ho hx hb => ?_; (first | refine aL ho hb hx hF rfl rfl ?_ | refine aC (v := .slice _ _ _) ho hb hx hF rfl rfl ?_ | refine aC (v := .string _) ho hb hx hF rfl rfl ?_ | refine aC (v := .bool _) ho hb hx hF rfl rfl ?_); clear ho hx hb)
    | (refine iS hF rfl rfl fun ho hx hb => ?_; (first | refine aS ho hb hx hF rfl rfl rfl rfl ?_ | refine aT (v := .int _ _) ho hb hx hF rfl rfl rfl rfl ?_ | refine aT (v := .slice _ _ _) ho hb hx hF rfl rfl rfl rfl ?_ | refine aT (v := .bool _) ho hb hx hF rfl rfl rfl rfl ?_); clear ho hx hb hF; intro ww hF; simp only [nf] at hF)
    )
   refine rgw [] [_, _, _] hF (.cons _ (.cons _ (.cons _ (.cons _ (.cons_cons _ (.cons_cons _ (.cons_cons _ .slnil))))))) fun hF => ?_
   refine tkb 0 0 [] rfl rfl rfl rfl rfl ?_
   try simp only [nrm, Act.put]
   refine tkb 1 1 [] rfl rfl rfl rfl rfl ?_
   try simp only [nrm, Act.put]
   refine tkb 2 2 [] rfl rfl rfl rfl rfl ?_
   try simp only [nrm, Act.put]
   refine stw 3 0 hF rfl rfl rfl rfl rfl rfl rfl rfl ?_
   clear hF; intro ww hF; simp only [nf] at hF
   try simp only [nrm, Act.put]
   refine stw 4 1 hF rfl rfl rfl rfl rfl rfl rfl rfl ?_
   clear hF; intro ww hF; simp only [nf] at hF
   try simp only [nrm, Act.put]
   refine stw 5 2 hF rfl rfl rfl rfl rfl rfl rfl rfl ?_
   clear hF; intro ww hF; simp only [nf] at hF
   try simp only [nrm, Act.put]
   refine dnw ?_
   go_wp2_with (first
    | go_skip
    | (refine aA rfl rfl hF ?_; clear hF; intro gg ww hF; simp only [nf] at hF)
    | (refine aB rfl rfl hF rfl ?_; clear hF; intro gg ww hF; simp only [nf] at hF)
    | (refine iL (t := 3) hF rfl rfl fun ho hx hb => ?_; refine aC (v := .int _ _) ho hb hx hF rfl rfl ?_; clear ho hx hb)
    | (refine iL hF rfl rfl fun ho hx hb => ?_; (first | refine aL ho hb hx hF rfl rfl ?_ | refine aC (v := .slice _ _ _) ho hb hx hF rfl rfl ?_ | refine aC (v := .string _) ho hb hx hF rfl rfl ?_ | refine aC (v := .bool _) ho hb hx hF rfl rfl ?_); clear ho hx hb)
    | (refine iS hF rfl rfl fun ho hx hb => ?_; (first | refine aS ho hb hx hF rfl rfl rfl rfl ?_ | refine aT (v := .int _ _) ho hb hx hF rfl rfl rfl rfl ?_ | refine aT (v := .slice _ _ _) ho hb hx hF rfl rfl rfl rfl ?_ | refine aT (v := .bool _) ho hb hx hF rfl rfl rfl rfl ?_); clear ho hx hb hF; intro ww hF; simp only [nf] at hF)
    | (first | (refine aD #[.int .i64 (gN k (q + 1)).access, .int .i64 (gN k (q + 1)).refresh] 3 2 rfl (fun _ => by kernel_rfl) rfl hF ?_; clear hF; intro gg ww hF; simp only [nf] at hF) | (at_builtin; refine aAp 3 7 22 fo (.int .i64 0) 8 rfl hF rfl Tryz.underlying22 hfo hf0 hf1 hf2 rfl (by decide) rfl rfl HC.out.1 HC.out.2.1 HC.out.2.2.1 HC.out.2.2.2 (by omega) rfl rfl rfl (by decide) (by decide) inferInstance ?_; clear hF; intro ga' cs' cap' ww q1 q2 q3 q4 hF; simp only [nf] at hF))
    )
   exact ⟨⟨q + 1, A1, c1, ga', cs', cap', by omega, rfl, by go_num, ⟨q1, by rw [← keyR_succ k q]; exact q2, q3, q4⟩, hF.sub (.cons_cons _ (.cons_cons _ (.cons_cons _ (.cons_cons _ (.cons _ (.cons _ (.cons _ (.cons _ .slnil))))))))⟩, by simp [intOf]; omega⟩
  ·
   obtain rfl : q = T := by omega
   have hk1 : ¬ (q : Int) < (q : Int) := by omega
   have hk2 : decide ((q : Int) < (q : Int)) = false := by simp
   have hk3 : decide (q < q) = false := by simp
   clear hlt hrenew c3
   go_upto_region 14 with (fail)
   obtain ⟨hcs, htk, hle, hcap⟩ := HC.out
   obtain ⟨h, hh, hhl⟩ : ∃ h : Nat, which % ((2 * q + 2 : Nat) : Int) = (h : Int) ∧ h < 2 * q + 2 := by
    have h0 := Int.emod_nonneg which (show ((2 * q + 2 : Nat) : Int) ≠ 0 by omega)
    have h1 := Int.emod_lt_of_pos which (show (0 : Int) < ((2 * q + 2 : Nat) : Int) by omega)
    exact ⟨(which % ((2 * q + 2 : Nat) : Int)).toNat, by omega, by omega⟩
   have hkey : ∀ (p : Nat), p < 2 * q + 2 → cs[p]? = some (.int .i64 (104 + (p : Int))) := fun p hp => by
    have := keyR_at q p hp
    rw [← htk, List.getElem?_take, if_pos hp, Array.getElem?_toList] at this
    exact this
   have hq4 : q < 4 := hT4
   have cw := c4.out ((2 * q + 2 : Nat) : Int)
   rw [hh] at cw
   replace cw : Hid (∀ W, Calls Tryz.prog 9 #[.int .i64 which, .int .i64 ((2 * q + 2 : Nat) : Int)] W fun e w' => e = .returned (.int .i64 (h : Int)) ∧ W = w') := fun W => cw W (by omega) (by omega)
   have cd : Hid (∀ W, StH bs0 (RN k q) W cl CA cc UA uc RA rc → Calls Tryz.prog 16 #[.agg (stA bs0.nm bs0.key CA cl.length cc UA bs0.us.length uc RA (RN k q).length rc), .int .i64 0, .int .i64 jj, .int .i64 (104 + (h : Int))] W (DropN bs0 (dropN k jj q) W)) := fun W hW => by
    have := drop_walk bs0 (RN k q) 0 jj (104 + (h : Int)) cl CA cc UA uc RA rc W hW hsm.1 hsm.2.1 hsm.2.2
    rw [ev_drop k jj q h hq4 hhl] at this
    exact this
   have HKEY := Lib.hid hkey
   have HHL := Lib.hid hhl
   have HSM := Lib.hid hsm
   have hst : Hid (∀ W, ((True ∧ Agr w1.heap.size w2 W) ∧ RecsAt W RA rc (RN k q)) → StH bs0 (RN k q) W cl CA cc UA uc RA rc) := fun W h => (hN'.out W h.1).with h.2
   clear hh hhl hkey c4 hle hcap hcs htk hsm
   refine rgw [] _ hF (List.Sublist.refl _) fun hF => ?_
   generalize (Go.World.drew _) = W0 at hF ⊢
   refine tkb 0 0 [] rfl rfl rfl rfl rfl ?_
   try simp only [nrm, Act.put]
   refine tkf 1 rfl ?_
   try simp only [nrm, Act.put]
   refine tkc 2 1 [] (v := .int _ _) rfl rfl rfl rfl rfl ?_
   try simp only [nrm, Act.put]
   refine tkf 3 rfl ?_
   try simp only [nrm, Act.put]
   refine tkf 4 rfl ?_
   try simp only [nrm, Act.put]
   refine tkf 5 rfl ?_
   try simp only [nrm, Act.put]
   refine tkf 6 rfl ?_
   try simp only [nrm, Act.put]
   refine tkf 7 rfl ?_
   try simp only [nrm, Act.put]
   refine Lane.open_ [⟨12, 21, 31, stZ, fun g => .pointer (some ⟨g, 0, none⟩)⟩] 5 ⟨⟨_, rfl, rfl, rfl, fun _ _ => by kernel_rfl⟩, trivial⟩ ?_ hF
   refine Lane.call 8 9 #[.int .i64 which, .int .i64 ((2 * q + 2 : Nat) : Int)] (.int .i64 (h : Int)) rfl rfl (by intro s hs W; rcases s with _ | ⟨x, _ | ⟨y, s⟩⟩ <;> simp at hs <;> cases x <;> kernel_rfl) (fun W hW => (cw.out W).mono fun e w' h => ⟨h.1, h.2 ▸ Below.refl _ _⟩) ?_
   try simp only [nrm, Act.put]
   refine Lane.val 9 (.pointer (some ⟨ga, h, none⟩)) rfl rfl (by intro s hs W _; rcases s with _ | ⟨x, _ | ⟨y, s⟩⟩ <;> simp at hs <;> cases x <;> (have hx := HHL.out; simp only [lnA, Act.put]; go_simp; intro hb; omega)) ?_
   try simp only [nrm, Act.put]
   refine Lane.val 10 (.int .i64 (104 + (h : Int))) rfl rfl (by intro s hs W hW; rcases s with _ | ⟨x, _ | ⟨y, s⟩⟩ <;> simp at hs <;> cases x <;> exact exec_spot (i := 3) (t' := 3) hW rfl rfl rfl (HKEY.out h HHL.out)) ?_
   try simp only [nrm, Act.put]
   refine Lane.callX (X := { x : World × World × Value // NewSt bs0 (dropN k jj q) x.1 x.2.1 x.2.2 }) 11 16 #[.agg (stA bs0.nm bs0.key CA cl.length cc UA bs0.us.length uc RA (RN k q).length rc), .int .i64 0, .int .i64 jj, .int .i64 (104 + (h : Int))] (fun x => x.1.2.2) (fun x W => ((True ∧ Agr w1.heap.size w2 W) ∧ RecsAt W RA rc (RN k q)) ∧ Agr x.1.1.heap.size x.1.2.1 W) rfl rfl (by intro s hs W; rcases s with _ | ⟨x, _ | ⟨y, s⟩⟩ <;> simp at hs <;> cases x <;> kernel_rfl) (fun W bx hF => (cd.out W (hst.out W hF.data)).mono fun e w' hx => by
    obtain ⟨v, rfl, hN, hbn⟩ := hx
    exact ⟨⟨(W, w', v), hN⟩, rfl, (hF.call hbn).grow (kp_agr fun x hx => (hF.mem hx).2)⟩) (fun W bx h => Fr.front h) (fun x W bx h => (Fr.front h).weak fun _ h => h.1) ?_
   rintro ⟨⟨W1, W2, v2⟩, hx⟩
   change Lane _ _ _ _ _ _ _ (fun W => ((True ∧ Agr w1.heap.size w2 W) ∧ RecsAt W RA rc (RN k q)) ∧ Agr W1.heap.size W2 W) _ _ _ (Act.put _ _ v2)
   obtain ⟨cl2, CA2, cc2, UA2, uc2, RA2, rc2, hve, hra2, hN2⟩ : NewSt bs0 (dropN k jj q) W1 W2 v2 := hx
   subst hve
   have hsm2 := Lib.hid (cl_small (hN2 _ (Agr.refl _ _)))
   have HN2 := Lib.hid hN2
   clear hra2 hN2
   refine Lane.force (hS := fun W bx h => (Fr.front h).weak fun _ h => h.1) ?_
   intro g4
   try simp only [nrm, Act.put]
   refine Lane.close ?_
   clear hF
   intro ww hF
   simp only [nf] at hF
   refine stw 13 4 hF rfl rfl rfl rfl rfl rfl rfl rfl ?_ (hS := fun W hW => HoldA.of (((hW.sub (.cons_cons _ (.cons_cons _ (.cons_cons _ (.cons_cons _ (.cons _ .slnil)))))).weak fun _ h => h.1)) _)
   clear hF; intro ww hF; simp only [nf] at hF
   try simp only [nrm, Act.put]
   refine dnw ?_
   go_wp2_with (first
    | go_skip
    | (refine aA rfl rfl hF ?_; clear hF; intro gg ww hF; simp only [nf] at hF)
    | (refine aB rfl rfl hF rfl ?_; clear hF; intro gg ww hF; simp only [nf] at hF)
    | (refine iL (t := 3) hF rfl rfl fun ho hx hb => ?_; refine aC (v := .int _ _) ho hb hx hF rfl rfl ?_; clear ho hx hb)
    | (refine iL hF rfl rfl fun ho hx hb => ?_; (first | refine aL ho hb hx hF rfl rfl ?_ | refine aC (v := .slice _ _ _) ho hb hx hF rfl rfl ?_ | refine aC (v := .string _) ho hb hx hF rfl rfl ?_ | refine aC (v := .bool _) ho hb hx hF rfl rfl ?_); clear ho hx hb)
    | (refine iS hF rfl rfl fun ho hx hb => ?_; (first | refine aS ho hb hx hF rfl rfl rfl rfl ?_ | refine aT (v := .int _ _) ho hb hx hF rfl rfl rfl rfl ?_ | refine aT (v := .slice _ _ _) ho hb hx hF rfl rfl rfl rfl ?_ | refine aT (v := .bool _) ho hb hx hF rfl rfl rfl rfl ?_); clear ho hx hb hF; intro ww hF; simp only [nf] at hF)
    )
   obtain ⟨bM, hbM, hF0⟩ := hF.named
   have HBM := Lib.hid hbM
   clear hbM hF
   go_loopw [22] (fun pv wr => ∃ p : Nat, p ≤ 2 * q + 2 ∧ pv = .int .i64 p ∧ Fr w wr bM (fun W => ((True ∧ Agr w1.heap.size w2 W) ∧ RecsAt W RA rc (RN k q)) ∧ Agr W1.heap.size W2 W)) (fun pv _ => 2 * q + 2 - (intOf pv).toNat)
   case atStart => exact ⟨0, by omega, rfl, hF0⟩
   case round =>
    clear hF0
    obtain ⟨p, hp, rfl, hF⟩ := hrel
    have hbM := HBM.out
    subst hbM
    by_cases hlt : p < 2 * q + 2
    ·
     have hlt2 : (p : Int) < 2 * (q : Int) + 2 := by omega
     have hlt3 : (p : Int) < ((2 * q + 2 : Nat) : Int) := by omega
     have hda := drop_act k jj q p hq4 hlt
     obtain ⟨r1, b1, hb1, ca1⟩ : ∃ (r1 : Rc) (b1 : Bool), (activeO (RN k q) 0 (104 + (p : Int))).isSome = b1 ∧ Hid (∀ W, RecsAt W RA rc (RN k q) → Calls Tryz.prog 11 #[.agg (stA bs0.nm bs0.key CA cl.length cc UA bs0.us.length uc RA (RN k q).length rc), .int .i64 0, .int .i64 (104 + (p : Int))] W fun e w' => e = .returned (.tuple #[.agg r1.arr, .bool b1]) ∧ Below W.heap.size W w') := ⟨_, _, rfl, fun W hW => ractive_walk bs0 (RN k q) 0 (104 + (p : Int)) cl CA cc UA uc RA rc W hW⟩
     obtain ⟨r2, b2, hb2, ca2⟩ : ∃ (r1 : Rc) (b1 : Bool), (activeO (dropN k jj q) 0 (104 + (p : Int))).isSome = b1 ∧ Hid (∀ W, RecsAt W RA2 rc2 (dropN k jj q) → Calls Tryz.prog 10 #[.agg (stA bs0.nm bs0.key CA2 cl2.length cc2 UA2 bs0.us.length uc2 RA2 (dropN k jj q).length rc2), .int .i64 0, .int .i64 (104 + (p : Int))] W fun e w' => e = .returned (.tuple #[.agg r1.arr, .bool b1]) ∧ Below W.heap.size W w') := ⟨_, _, rfl, fun W hW => active_walk bs0 (dropN k jj q) 0 (104 + (p : Int)) cl2 CA2 cc2 UA2 uc2 RA2 rc2 W hW⟩
     rw [hb1, hb2] at hda
     have HDA := Lib.hid hda
     have hwp : IntKind.i64.wrap ((p : Int) + 1) = ((p + 1 : Nat) : Int) := by rw [IntKind.wrap_i64]; omega
     clear hb1 hb2 hda
     go_wp2_with (first
      | go_skip
      | (refine aA rfl rfl hF ?_; clear hF; intro gg ww hF; simp only [nf] at hF)
      | (refine aB rfl rfl hF rfl ?_; clear hF; intro gg ww hF; simp only [nf] at hF)
      | (refine iL (t := 3) hF rfl rfl fun ho hx hb => ?_; refine aC (v := .int _ _) ho hb hx hF rfl rfl ?_; clear ho hx hb)
      | (refine iL hF rfl rfl fun ho hx hb => ?_; (first | refine aL ho hb hx hF rfl rfl ?_ | refine aC (v := .slice _ _ _) ho hb hx hF rfl rfl ?_ | refine aC (v := .string _) ho hb hx hF rfl rfl ?_ | refine aC (v := .bool _) ho hb hx hF rfl rfl ?_); clear ho hx hb)
      | (refine iS hF rfl rfl fun ho hx hb => ?_; (first | refine aS ho hb hx hF rfl rfl rfl rfl ?_ | refine aT (v := .int _ _) ho hb hx hF rfl rfl rfl rfl ?_ | refine aT (v := .slice _ _ _) ho hb hx hF rfl rfl rfl rfl ?_ | refine aT (v := .bool _) ho hb hx hF rfl rfl rfl rfl ?_); clear ho hx hb hF; intro ww hF; simp only [nf] at hF)
      )
     refine rgw [] _ hF (List.Sublist.refl _) fun hF => ?_
     generalize (Go.World.drew _) = W0 at hF ⊢
     refine tkb 0 0 [] rfl rfl rfl rfl rfl ?_
     try simp only [nrm, Act.put]
     refine tkf 1 rfl ?_
     try simp only [nrm, Act.put]
     refine tkc 2 1 [] (v := .int _ _) rfl rfl rfl rfl rfl ?_
     try simp only [nrm, Act.put]
     refine tkf 3 rfl ?_
     try simp only [nrm, Act.put]
     refine tkf 4 rfl ?_
     try simp only [nrm, Act.put]
     refine tkf 5 rfl ?_ (v := .pointer (some ⟨ga, p, none⟩)) (hv := by intro W; go_simp)
     try simp only [nrm, Act.put]
     refine tkw 6 [] rfl ?_ (v := .int .i64 (104 + (p : Int))) (hv := fun W hW => exec_spot (i := 3) (t' := 3) hW rfl rfl rfl (HKEY.out p hlt))
     try simp only [nrm, Act.put]
     refine Lane.open_ [⟨11, 23, 41, Rc.none.arr, fun g => .pointer (some ⟨g, 0, none⟩)⟩] 6 ⟨⟨_, rfl, rfl, rfl, fun _ _ => by kernel_rfl⟩, trivial⟩ ?_ hF
     refine Lane.call 7 11 #[.agg (stA bs0.nm bs0.key CA cl.length cc UA bs0.us.length uc RA (RN k q).length rc), .int .i64 0, .int .i64 (104 + (p : Int))] (.tuple #[.agg r1.arr, .bool b1]) rfl rfl (by intro s hs W; rcases s with _ | ⟨x, _ | ⟨y, s⟩⟩ <;> simp at hs <;> cases x <;> kernel_rfl) (fun W hW => ca1.out W hW.data.1.2) ?_
     try simp only [nrm, Act.put]
     refine Lane.take 8 (.tuple #[.agg r1.arr, .bool b1]) rfl rfl (by intro s hs W; rcases s with _ | ⟨x, _ | ⟨y, s⟩⟩ <;> simp at hs <;> cases x <;> kernel_rfl) ?_
     try simp only [nrm, Act.put]
     refine Lane.take 9 (.agg r1.arr) rfl rfl (by intro s hs W; rcases s with _ | ⟨x, _ | ⟨y, s⟩⟩ <;> simp at hs <;> cases x <;> kernel_rfl) ?_
     try simp only [nrm, Act.put]
     refine Lane.take 10 (.bool b1) rfl rfl (by intro s hs W; rcases s with _ | ⟨x, _ | ⟨y, s⟩⟩ <;> simp at hs <;> cases x <;> kernel_rfl) ?_
     try simp only [nrm, Act.put]
     refine Lane.force ?_
     intro g5
     try simp only [nrm, Act.put]
     refine Lane.close ?_
     clear hF
     intro ww hF
     simp only [nf] at hF
     refine stw 12 5 hF rfl rfl rfl rfl rfl rfl rfl rfl ?_
     clear hF; intro ww hF; simp only [nf] at hF
     try simp only [nrm, Act.put]
     refine tkf 13 rfl ?_
     try simp only [nrm, Act.put]
     refine dnw ?_
     go_wp2_with (first
      | go_skip
      | (refine aA rfl rfl hF ?_; clear hF; intro gg ww hF; simp only [nf] at hF)
      | (refine aB rfl rfl hF rfl ?_; clear hF; intro gg ww hF; simp only [nf] at hF)
      | (refine iL (t := 3) hF rfl rfl fun ho hx hb => ?_; refine aC (v := .int _ _) ho hb hx hF rfl rfl ?_; clear ho hx hb)
      | (refine iL hF rfl rfl fun ho hx hb => ?_; (first | refine aL ho hb hx hF rfl rfl ?_ | refine aC (v := .slice _ _ _) ho hb hx hF rfl rfl ?_ | refine aC (v := .string _) ho hb hx hF rfl rfl ?_ | refine aC (v := .bool _) ho hb hx hF rfl rfl ?_); clear ho hx hb)
      | (refine iS hF rfl rfl fun ho hx hb => ?_; (first | refine aS ho hb hx hF rfl rfl rfl rfl ?_ | refine aT (v := .int _ _) ho hb hx hF rfl rfl rfl rfl ?_ | refine aT (v := .slice _ _ _) ho hb hx hF rfl rfl rfl rfl ?_ | refine aT (v := .bool _) ho hb hx hF rfl rfl rfl rfl ?_); clear ho hx hb hF; intro ww hF; simp only [nf] at hF)
      )
     refine rgw [] _ hF (List.Sublist.refl _) fun hF => ?_
     generalize (Go.World.drew _) = W0 at hF ⊢
     refine tkb 0 4 [] rfl rfl rfl rfl rfl ?_
     try simp only [nrm, Act.put]
     refine tkf 1 rfl ?_
     try simp only [nrm, Act.put]
     refine tkc 2 1 [] (v := .int _ _) rfl rfl rfl rfl rfl ?_
     try simp only [nrm, Act.put]
     refine tkf 3 rfl ?_
     try simp only [nrm, Act.put]
     refine tkf 4 rfl ?_
     try simp only [nrm, Act.put]
     refine tkf 5 rfl ?_ (v := .pointer (some ⟨ga, p, none⟩)) (hv := by intro W; go_simp)
     try simp only [nrm, Act.put]
     refine tkw 6 [] rfl ?_ (v := .int .i64 (104 + (p : Int))) (hv := fun W hW => exec_spot (i := 3) (t' := 3) hW rfl rfl rfl (HKEY.out p hlt))
     try simp only [nrm, Act.put]
     refine Lane.open_ [⟨11, 25, 41, Rc.none.arr, fun g => .pointer (some ⟨g, 0, none⟩)⟩] 6 ⟨⟨_, rfl, rfl, rfl, fun _ _ => by kernel_rfl⟩, trivial⟩ ?_ hF
     refine Lane.call 7 10 #[.agg (stA bs0.nm bs0.key CA2 cl2.length cc2 UA2 bs0.us.length uc2 RA2 (dropN k jj q).length rc2), .int .i64 0, .int .i64 (104 + (p : Int))] (.tuple #[.agg r2.arr, .bool b2]) rfl rfl (by intro s hs W; rcases s with _ | ⟨x, _ | ⟨y, s⟩⟩ <;> simp at hs <;> cases x <;> kernel_rfl) (fun W hW => ca2.out W (HN2.out W hW.data.2).rs) ?_
     try simp only [nrm, Act.put]
     refine Lane.take 8 (.tuple #[.agg r2.arr, .bool b2]) rfl rfl (by intro s hs W; rcases s with _ | ⟨x, _ | ⟨y, s⟩⟩ <;> simp at hs <;> cases x <;> kernel_rfl) ?_
     try simp only [nrm, Act.put]
     refine Lane.take 9 (.agg r2.arr) rfl rfl (by intro s hs W; rcases s with _ | ⟨x, _ | ⟨y, s⟩⟩ <;> simp at hs <;> cases x <;> kernel_rfl) ?_
     try simp only [nrm, Act.put]
     refine Lane.take 10 (.bool b2) rfl rfl (by intro s hs W; rcases s with _ | ⟨x, _ | ⟨y, s⟩⟩ <;> simp at hs <;> cases x <;> kernel_rfl) ?_
     try simp only [nrm, Act.put]
     refine Lane.force ?_
     intro g6
     try simp only [nrm, Act.put]
     refine Lane.close ?_
     clear hF
     intro ww hF
     simp only [nf] at hF
     refine stw 12 6 hF rfl rfl rfl rfl rfl rfl rfl rfl ?_
     clear hF; intro ww hF; simp only [nf] at hF
     try simp only [nrm, Act.put]
     refine tkf 13 rfl ?_
     try simp only [nrm, Act.put]
     refine dnw ?_
     by_cases hkj : k = jj
     ·
      have hb2 : b2 = false := by rw [HDA.out, hkj]; simp
      subst hkj
      subst hb2
      have hx1 : (k != k) = false := by simp
      cases b1
      ·
       go_wp2_with (first
        | go_skip
        | (refine aA rfl rfl hF ?_; clear hF; intro gg ww hF; simp only [nf] at hF)
        | (refine aB rfl rfl hF rfl ?_; clear hF; intro gg ww hF; simp only [nf] at hF)
        | (refine iL (t := 3) hF rfl rfl fun ho hx hb => ?_; refine aC (v := .int _ _) ho hb hx hF rfl rfl ?_; clear ho hx hb)
        | (refine iL hF rfl rfl fun ho hx hb => ?_; (first | refine aL ho hb hx hF rfl rfl ?_ | refine aC (v := .slice _ _ _) ho hb hx hF rfl rfl ?_ | refine aC (v := .string _) ho hb hx hF rfl rfl ?_ | refine aC (v := .bool _) ho hb hx hF rfl rfl ?_); clear ho hx hb)
        | (refine iS hF rfl rfl fun ho hx hb => ?_; (first | refine aS ho hb hx hF rfl rfl rfl rfl ?_ | refine aT (v := .int _ _) ho hb hx hF rfl rfl rfl rfl ?_ | refine aT (v := .slice _ _ _) ho hb hx hF rfl rfl rfl rfl ?_ | refine aT (v := .bool _) ho hb hx hF rfl rfl rfl rfl ?_); clear ho hx hb hF; intro ww hF; simp only [nf] at hF)
        )
       exact ⟨⟨p + 1, by omega, by go_num, hF.sub (.cons_cons _ (.cons_cons _ (.cons_cons _ (.cons_cons _ (.cons_cons _ (.cons _ (.cons _ .slnil)))))))⟩, by simp [intOf]; omega⟩
      ·
       go_wp2_with (first
        | go_skip
        | (refine aA rfl rfl hF ?_; clear hF; intro gg ww hF; simp only [nf] at hF)
        | (refine aB rfl rfl hF rfl ?_; clear hF; intro gg ww hF; simp only [nf] at hF)
        | (refine iL (t := 3) hF rfl rfl fun ho hx hb => ?_; refine aC (v := .int _ _) ho hb hx hF rfl rfl ?_; clear ho hx hb)
        | (refine iL hF rfl rfl fun ho hx hb => ?_; (first | refine aL ho hb hx hF rfl rfl ?_ | refine aC (v := .slice _ _ _) ho hb hx hF rfl rfl ?_ | refine aC (v := .string _) ho hb hx hF rfl rfl ?_ | refine aC (v := .bool _) ho hb hx hF rfl rfl ?_); clear ho hx hb)
        | (refine iS hF rfl rfl fun ho hx hb => ?_; (first | refine aS ho hb hx hF rfl rfl rfl rfl ?_ | refine aT (v := .int _ _) ho hb hx hF rfl rfl rfl rfl ?_ | refine aT (v := .slice _ _ _) ho hb hx hF rfl rfl rfl rfl ?_ | refine aT (v := .bool _) ho hb hx hF rfl rfl rfl rfl ?_); clear ho hx hb hF; intro ww hF; simp only [nf] at hF)
        )
       exact ⟨⟨p + 1, by omega, by go_num, hF.sub (.cons_cons _ (.cons_cons _ (.cons_cons _ (.cons_cons _ (.cons_cons _ (.cons _ (.cons _ .slnil)))))))⟩, by simp [intOf]; omega⟩
     ·
      have hb2 : b2 = b1 := by rw [HDA.out]; simp [hkj]
      subst hb2
      have hx1 : (jj != k) = true := by simp; exact fun e => hkj e.symm
      have hx2 : (jj == k) = false := by simp; exact fun e => hkj e.symm
      clear hkj
      cases b2
      ·
       go_wp2_with (first
        | go_skip
        | (refine aA rfl rfl hF ?_; clear hF; intro gg ww hF; simp only [nf] at hF)
        | (refine aB rfl rfl hF rfl ?_; clear hF; intro gg ww hF; simp only [nf] at hF)
        | (refine iL (t := 3) hF rfl rfl fun ho hx hb => ?_; refine aC (v := .int _ _) ho hb hx hF rfl rfl ?_; clear ho hx hb)
        | (refine iL hF rfl rfl fun ho hx hb => ?_; (first | refine aL ho hb hx hF rfl rfl ?_ | refine aC (v := .slice _ _ _) ho hb hx hF rfl rfl ?_ | refine aC (v := .string _) ho hb hx hF rfl rfl ?_ | refine aC (v := .bool _) ho hb hx hF rfl rfl ?_); clear ho hx hb)
        | (refine iS hF rfl rfl fun ho hx hb => ?_; (first | refine aS ho hb hx hF rfl rfl rfl rfl ?_ | refine aT (v := .int _ _) ho hb hx hF rfl rfl rfl rfl ?_ | refine aT (v := .slice _ _ _) ho hb hx hF rfl rfl rfl rfl ?_ | refine aT (v := .bool _) ho hb hx hF rfl rfl rfl rfl ?_); clear ho hx hb hF; intro ww hF; simp only [nf] at hF)
        )
       exact ⟨⟨p + 1, by omega, by go_num, hF.sub (.cons_cons _ (.cons_cons _ (.cons_cons _ (.cons_cons _ (.cons_cons _ (.cons _ (.cons _ .slnil)))))))⟩, by simp [intOf]; omega⟩
      ·
       go_wp2_with (first
        | go_skip
        | (refine aA rfl rfl hF ?_; clear hF; intro gg ww hF; simp only [nf] at hF)
        | (refine aB rfl rfl hF rfl ?_; clear hF; intro gg ww hF; simp only [nf] at hF)
        | (refine iL (t := 3) hF rfl rfl fun ho hx hb => ?_; refine aC (v := .int _ _) ho hb hx hF rfl rfl ?_; clear ho hx hb)
        | (refine iL hF rfl rfl fun ho hx hb => ?_; (first | refine aL ho hb hx hF rfl rfl ?_ | refine aC (v := .slice _ _ _) ho hb hx hF rfl rfl ?_ | refine aC (v := .string _) ho hb hx hF rfl rfl ?_ | refine aC (v := .bool _) ho hb hx hF rfl rfl ?_); clear ho hx hb)
        | (refine iS hF rfl rfl fun ho hx hb => ?_; (first | refine aS ho hb hx hF rfl rfl rfl rfl ?_ | refine aT (v := .int _ _) ho hb hx hF rfl rfl rfl rfl ?_ | refine aT (v := .slice _ _ _) ho hb hx hF rfl rfl rfl rfl ?_ | refine aT (v := .bool _) ho hb hx hF rfl rfl rfl rfl ?_); clear ho hx hb hF; intro ww hF; simp only [nf] at hF)
        )
       exact ⟨⟨p + 1, by omega, by go_num, hF.sub (.cons_cons _ (.cons_cons _ (.cons_cons _ (.cons_cons _ (.cons_cons _ (.cons _ (.cons _ .slnil)))))))⟩, by simp [intOf]; omega⟩
    ·
     obtain rfl : p = 2 * q + 2 := by omega
     have hz1 : ¬ ((2 * q + 2 : Nat) : Int) < 2 * (q : Int) + 2 := by omega
     have hz2 : ¬ ((2 * q + 2 : Nat) : Int) < ((2 * q + 2 : Nat) : Int) := by omega
     have hz3 : decide (((2 * q + 2 : Nat) : Int) < ((2 * q + 2 : Nat) : Int)) = false := by simp
     have hz4 : decide (2 * q + 2 < 2 * q + 2) = false := by simp
     clear hlt
     go_upto_region 22 with (fail)
     by_cases hkj : k = jj
     ·
      subst hkj
      have hx1 : (k == k) = true := by simp
      go_wp2_with (first
       | go_skip
       | (refine aA rfl rfl hF ?_; clear hF; intro gg ww hF; simp only [nf] at hF)
       | (refine aB rfl rfl hF rfl ?_; clear hF; intro gg ww hF; simp only [nf] at hF)
       | (refine iL (t := 3) hF rfl rfl fun ho hx hb => ?_; refine aC (v := .int _ _) ho hb hx hF rfl rfl ?_; clear ho hx hb)
       | (refine iL hF rfl rfl fun ho hx hb => ?_; (first | refine aL ho hb hx hF rfl rfl ?_ | refine aC (v := .slice _ _ _) ho hb hx hF rfl rfl ?_ | refine aC (v := .string _) ho hb hx hF rfl rfl ?_ | refine aC (v := .bool _) ho hb hx hF rfl rfl ?_); clear ho hx hb)
       | (refine iS hF rfl rfl fun ho hx hb => ?_; (first | refine aS ho hb hx hF rfl rfl rfl rfl ?_ | refine aT (v := .int _ _) ho hb hx hF rfl rfl rfl rfl ?_ | refine aT (v := .slice _ _ _) ho hb hx hF rfl rfl rfl rfl ?_ | refine aT (v := .bool _) ho hb hx hF rfl rfl rfl rfl ?_); clear ho hx hb hF; intro ww hF; simp only [nf] at hF)
       )
      go_ret
      exact ⟨rfl, hF.below⟩
     ·
      have hx1 : (jj == k) = false := by simp; exact fun e => hkj e.symm
      have hdn : dropN k jj q = RN k q := if_neg hkj
      rw [hdn] at HN2 hF ⊢
      clear hkj hdn
      go_wp2_with (first
       | go_skip
       | (refine aA rfl rfl hF ?_; clear hF; intro gg ww hF; simp only [nf] at hF)
       | (refine aB rfl rfl hF rfl ?_; clear hF; intro gg ww hF; simp only [nf] at hF)
       | (refine iL (t := 3) hF rfl rfl fun ho hx hb => ?_; refine aC (v := .int _ _) ho hb hx hF rfl rfl ?_; clear ho hx hb)
       | (refine iL hF rfl rfl fun ho hx hb => ?_; (first | refine aL ho hb hx hF rfl rfl ?_ | refine aC (v := .slice _ _ _) ho hb hx hF rfl rfl ?_ | refine aC (v := .string _) ho hb hx hF rfl rfl ?_ | refine aC (v := .bool _) ho hb hx hF rfl rfl ?_); clear ho hx hb)
       | (refine iS hF rfl rfl fun ho hx hb => ?_; (first | refine aS ho hb hx hF rfl rfl rfl rfl ?_ | refine aT (v := .int _ _) ho hb hx hF rfl rfl rfl rfl ?_ | refine aT (v := .slice _ _ _) ho hb hx hF rfl rfl rfl rfl ?_ | refine aT (v := .bool _) ho hb hx hF rfl rfl rfl rfl ?_); clear ho hx hb hF; intro ww hF; simp only [nf] at hF)
       )
      refine (psame_walk bs0 (RN k q) cl2 CA2 cc2 UA2 uc2 RA2 rc2 cl CA cc UA uc RA rc _ (HN2.out _ hF.data.2) (hst.out _ hF.data.1) hsm2.out.1 hsm2.out.2.1 (fun c hc => by have := hsm2.out.2.2 c hc; omega)).mono ?_
      rintro _ w5 ⟨rfl, hbn⟩
      replace hF := hF.call hbn
      clear hbn
      go_wp2_with (first
       | go_skip
       | (refine aA rfl rfl hF ?_; clear hF; intro gg ww hF; simp only [nf] at hF)
       | (refine aB rfl rfl hF rfl ?_; clear hF; intro gg ww hF; simp only [nf] at hF)
       | (refine iL (t := 3) hF rfl rfl fun ho hx hb => ?_; refine aC (v := .int _ _) ho hb hx hF rfl rfl ?_; clear ho hx hb)
       | (refine iL hF rfl rfl fun ho hx hb => ?_; (first | refine aL ho hb hx hF rfl rfl ?_ | refine aC (v := .slice _ _ _) ho hb hx hF rfl rfl ?_ | refine aC (v := .string _) ho hb hx hF rfl rfl ?_ | refine aC (v := .bool _) ho hb hx hF rfl rfl ?_); clear ho hx hb)
       | (refine iS hF rfl rfl fun ho hx hb => ?_; (first | refine aS ho hb hx hF rfl rfl rfl rfl ?_ | refine aT (v := .int _ _) ho hb hx hF rfl rfl rfl rfl ?_ | refine aT (v := .slice _ _ _) ho hb hx hF rfl rfl rfl rfl ?_ | refine aT (v := .bool _) ho hb hx hF rfl rfl rfl rfl ?_); clear ho hx hb hF; intro ww hF; simp only [nf] at hF)
       )
      go_ret
      exact ⟨rfl, hF.below⟩
end Go.Proofs.YtnhjgocdepbajaaGreat
