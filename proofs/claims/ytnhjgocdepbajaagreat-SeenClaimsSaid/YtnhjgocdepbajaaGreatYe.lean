/- seen.Drop: a state of its own, a client's token away. Conditions: rows of sizes that a machine bears. Printed by wip/tools/genYe.py. -/
import Derived.Test.YtnhjgocdepbajaaGreatZz
set_option linter.unusedVariables false
set_option linter.unusedSimpArgs false
set_option maxRecDepth 20000
namespace Go.Proofs.YtnhjgocdepbajaaGreat
open Go.RowKit S19 C17 R
def DropN (b : Bs) (rs : List Rc) (w : World) (e : Ending) (w' : World) : Prop := ∃ v, e = .returned v ∧ NewSt b rs w w' v ∧ Below w.heap.size w w'
section
variable (b : Bs) (rs : List Rc) (now client key : Int) (cl : List Cl) (CA : Option Addr) (cc : Nat) (UA : Option Addr) (uc : Nat) (RA : Option Addr) (rc : Nat) (w : World) (hst : StH b rs w cl CA cc UA uc RA rc)
 (hcl : cl.length ≤ 1000000) (hul : b.us.length ≤ 1000000) (htx : ∀ c ∈ cl, c.red.length ≤ 100000)
include hst hcl hul htx
set_option maxHeartbeats 8000000 in
theorem drop_walk :
  Calls Tryz.prog 16 #[.agg (stA b.nm b.key CA cl.length cc UA b.us.length uc RA rs.length rc), .int .i64 now, .int .i64 client, .int .i64 key] w (DropN b (dropL rs now client key) w) := by
 have hF := Fr.nil w
 have hrl := hst.rs.2.1
 have HS := Lib.hid (fun W (hb : Below w.heap.size w W) => hst.below hb)
 have cs := Lib.hid (fun W (h : StH b rs W cl CA cc UA uc RA rc) => state_walk b rs cl CA cc UA uc RA rc W h hcl hul hrl htx)
 have ct := Lib.hid (fun W h => token_walk b rs now key cl CA cc UA uc RA rc W h)
 have HV : Hid (dropL rs now client key = match tokenO rs now key with
  | none => rs
  | some r => if r.client = client then revokeL r.fam rs else rs) := rfl
 generalize tokenO rs now key = o at ct HV
 clear hst
 cases o with
 | none =>
  have hv : Hid (dropL rs now client key = rs) := HV.out
  go_enter Tryz.func16, Tryz.ntmps16
  go_wp2_with (first
   | go_skip
   | (refine aA rfl rfl hF ?_; clear hF; intro gg ww hF; simp only [nf] at hF)
   | (refine aB rfl rfl hF rfl ?_; clear hF; intro gg ww hF; simp only [nf] at hF)
   | (refine iL (t := 3) hF rfl rfl fun ho hx hb => ?_; refine aC (v := .int _ _) ho hb hx hF rfl rfl ?_; clear ho hx hb)
   | (refine iL hF rfl rfl fun ho hx hb => ?_; (first | refine aL ho hb hx hF rfl rfl ?_ | refine aC (v := .slice _ _ _) ho hb hx hF rfl rfl ?_ | refine aC (v := .string _) ho hb hx hF rfl rfl ?_ | refine aC (v := .bool _) ho hb hx hF rfl rfl ?_); clear ho hx hb)
   | (refine iS hF rfl rfl fun ho hx hb => ?_; (first | refine aS ho hb hx hF rfl rfl rfl rfl ?_ | refine aT (v := .int _ _) ho hb hx hF rfl rfl rfl rfl ?_ | refine aT (v := .slice _ _ _) ho hb hx hF rfl rfl rfl rfl ?_ | refine aT (v := .bool _) ho hb hx hF rfl rfl rfl rfl ?_); clear ho hx hb hF; intro ww hF; simp only [nf] at hF)
   )
  refine (cs.out _ (HS.out _ hF.below)).mono ?_
  rintro _ w1 ⟨v, rfl, ⟨cl2, CA2, cc2, UA2, uc2, RA2, rc2, rfl, hra, hN⟩, hbn⟩
  have hlo := hF.below.size
  replace hF := (hF.call hbn).grow (kp_agr fun x hx => (hF.mem hx).2)
  have hN' := Lib.hid (fun W (h : True ∧ Agr _ w1 W) => hN W h.2)
  clear hbn hN
  go_wp2_with (first
   | go_skip
   | (refine aA rfl rfl hF ?_; clear hF; intro gg ww hF; simp only [nf] at hF)
   | (refine aB rfl rfl hF rfl ?_; clear hF; intro gg ww hF; simp only [nf] at hF)
   | (refine iL (t := 3) hF rfl rfl fun ho hx hb => ?_; refine aC (v := .int _ _) ho hb hx hF rfl rfl ?_; clear ho hx hb)
   | (refine iL hF rfl rfl fun ho hx hb => ?_; (first | refine aL ho hb hx hF rfl rfl ?_ | refine aC (v := .slice _ _ _) ho hb hx hF rfl rfl ?_ | refine aC (v := .string _) ho hb hx hF rfl rfl ?_ | refine aC (v := .bool _) ho hb hx hF rfl rfl ?_); clear ho hx hb)
   | (refine iS hF rfl rfl fun ho hx hb => ?_; (first | refine aS ho hb hx hF rfl rfl rfl rfl ?_ | refine aT (v := .int _ _) ho hb hx hF rfl rfl rfl rfl ?_ | refine aT (v := .slice _ _ _) ho hb hx hF rfl rfl rfl rfl ?_ | refine aT (v := .bool _) ho hb hx hF rfl rfl rfl rfl ?_); clear ho hx hb hF; intro ww hF; simp only [nf] at hF)
   | (refine aV 83 (.agg (lsA b.nm b.key CA cl.length cc UA b.us.length uc RA rs.length rc now)) rfl (fun _ => by kernel_rfl) rfl ?_)
   )
  refine (ct.out _ (HS.out _ hF.below).rs).mono ?_
  rintro _ w2 ⟨rfl, hbn⟩
  replace hF := hF.call hbn
  clear hbn
  go_wp2_with (first
   | go_skip
   | (refine aA rfl rfl hF ?_; clear hF; intro gg ww hF; simp only [nf] at hF)
   | (refine aB rfl rfl hF rfl ?_; clear hF; intro gg ww hF; simp only [nf] at hF)
   | (refine iL (t := 3) hF rfl rfl fun ho hx hb => ?_; refine aC (v := .int _ _) ho hb hx hF rfl rfl ?_; clear ho hx hb)
   | (refine iL hF rfl rfl fun ho hx hb => ?_; (first | refine aL ho hb hx hF rfl rfl ?_ | refine aC (v := .slice _ _ _) ho hb hx hF rfl rfl ?_ | refine aC (v := .string _) ho hb hx hF rfl rfl ?_ | refine aC (v := .bool _) ho hb hx hF rfl rfl ?_); clear ho hx hb)
   | (refine iS hF rfl rfl fun ho hx hb => ?_; (first | refine aS ho hb hx hF rfl rfl rfl rfl ?_ | refine aT (v := .int _ _) ho hb hx hF rfl rfl rfl rfl ?_ | refine aT (v := .slice _ _ _) ho hb hx hF rfl rfl rfl rfl ?_ | refine aT (v := .bool _) ho hb hx hF rfl rfl rfl rfl ?_); clear ho hx hb hF; intro ww hF; simp only [nf] at hF)
   )
  refine bodyPost_ret (results1 Tryz.results16 (res_cell 1 hF rfl rfl rfl)) rfl ⟨_, rfl, ?_, hF.below⟩
  rw [hv.out]
  exact ⟨cl2, CA2, cc2, UA2, uc2, RA2, rc2, rfl, fun ad e => by have := hra ad e; omega, fun w2 h2 => hN'.out w2 ⟨trivial, hF.data.2.trans (h2.up hlo)⟩⟩
 | some r =>
  by_cases hc : r.client = client
  ·
   have h1 : (r.client == client) = true := by simpa using hc
   have hv : Hid (dropL rs now client key = revokeL r.fam rs) := by show _ = _; rw [HV.out]; simp only [hc, if_true]
   have ck := Lib.hid (fun A c W h => revoke_walk rs A c r.fam W h)
   have hlen := revokeL_le r.fam rs
   clear hc HV
   go_enter Tryz.func16, Tryz.ntmps16
   go_wp2_with (first
    | go_skip
    | (refine aA rfl rfl hF ?_; clear hF; intro gg ww hF; simp only [nf] at hF)
    | (refine aB rfl rfl hF rfl ?_; clear hF; intro gg ww hF; simp only [nf] at hF)
    | (refine iL (t := 3) hF rfl rfl fun ho hx hb => ?_; refine aC (v := .int _ _) ho hb hx hF rfl rfl ?_; clear ho hx hb)
    | (refine iL hF rfl rfl fun ho hx hb => ?_; (first | refine aL ho hb hx hF rfl rfl ?_ | refine aC (v := .slice _ _ _) ho hb hx hF rfl rfl ?_ | refine aC (v := .string _) ho hb hx hF rfl rfl ?_ | refine aC (v := .bool _) ho hb hx hF rfl rfl ?_); clear ho hx hb)
    | (refine iS hF rfl rfl fun ho hx hb => ?_; (first | refine aS ho hb hx hF rfl rfl rfl rfl ?_ | refine aT (v := .int _ _) ho hb hx hF rfl rfl rfl rfl ?_ | refine aT (v := .slice _ _ _) ho hb hx hF rfl rfl rfl rfl ?_ | refine aT (v := .bool _) ho hb hx hF rfl rfl rfl rfl ?_); clear ho hx hb hF; intro ww hF; simp only [nf] at hF)
    )
   refine (cs.out _ (HS.out _ hF.below)).mono ?_
   rintro _ w1 ⟨v, rfl, ⟨cl2, CA2, cc2, UA2, uc2, RA2, rc2, rfl, hra, hN⟩, hbn⟩
   have hlo := hF.below.size
   replace hF := (hF.call hbn).grow (kp_agr fun x hx => (hF.mem hx).2)
   have hN' := Lib.hid (fun W (h : True ∧ Agr _ w1 W) => hN W h.2)
   clear hbn hN
   go_wp2_with (first
    | go_skip
    | (refine aA rfl rfl hF ?_; clear hF; intro gg ww hF; simp only [nf] at hF)
    | (refine aB rfl rfl hF rfl ?_; clear hF; intro gg ww hF; simp only [nf] at hF)
    | (refine iL (t := 3) hF rfl rfl fun ho hx hb => ?_; refine aC (v := .int _ _) ho hb hx hF rfl rfl ?_; clear ho hx hb)
    | (refine iL hF rfl rfl fun ho hx hb => ?_; (first | refine aL ho hb hx hF rfl rfl ?_ | refine aC (v := .slice _ _ _) ho hb hx hF rfl rfl ?_ | refine aC (v := .string _) ho hb hx hF rfl rfl ?_ | refine aC (v := .bool _) ho hb hx hF rfl rfl ?_); clear ho hx hb)
    | (refine iS hF rfl rfl fun ho hx hb => ?_; (first | refine aS ho hb hx hF rfl rfl rfl rfl ?_ | refine aT (v := .int _ _) ho hb hx hF rfl rfl rfl rfl ?_ | refine aT (v := .slice _ _ _) ho hb hx hF rfl rfl rfl rfl ?_ | refine aT (v := .bool _) ho hb hx hF rfl rfl rfl rfl ?_); clear ho hx hb hF; intro ww hF; simp only [nf] at hF)
    | (refine aV 83 (.agg (lsA b.nm b.key CA cl.length cc UA b.us.length uc RA rs.length rc now)) rfl (fun _ => by kernel_rfl) rfl ?_)
    )
   refine (ct.out _ (HS.out _ hF.below).rs).mono ?_
   rintro _ w2 ⟨rfl, hbn⟩
   replace hF := hF.call hbn
   clear hbn
   go_wp2_with (first
    | go_skip
    | (refine aA rfl rfl hF ?_; clear hF; intro gg ww hF; simp only [nf] at hF)
    | (refine aB rfl rfl hF rfl ?_; clear hF; intro gg ww hF; simp only [nf] at hF)
    | (refine iL (t := 3) hF rfl rfl fun ho hx hb => ?_; refine aC (v := .int _ _) ho hb hx hF rfl rfl ?_; clear ho hx hb)
    | (refine iL hF rfl rfl fun ho hx hb => ?_; (first | refine aL ho hb hx hF rfl rfl ?_ | refine aC (v := .slice _ _ _) ho hb hx hF rfl rfl ?_ | refine aC (v := .string _) ho hb hx hF rfl rfl ?_ | refine aC (v := .bool _) ho hb hx hF rfl rfl ?_); clear ho hx hb)
    | (refine iS hF rfl rfl fun ho hx hb => ?_; (first | refine aS ho hb hx hF rfl rfl rfl rfl ?_ | refine aT (v := .int _ _) ho hb hx hF rfl rfl rfl rfl ?_ | refine aT (v := .slice _ _ _) ho hb hx hF rfl rfl rfl rfl ?_ | refine aT (v := .bool _) ho hb hx hF rfl rfl rfl rfl ?_); clear ho hx hb hF; intro ww hF; simp only [nf] at hF)
    )
   refine (ck.out _ _ _ (hN'.out _ hF.data).rs).mono ?_
   rintro _ w3 ⟨v, rfl, hown, hbn⟩
   obtain ⟨A2, c2, rfl, hr2⟩ := RecsAt.own hown (by omega)
   have hnr := own_new hown (Nat.le_refl _)
   have hge := hF.below.size
   replace hF := hF.rows hbn hr2 (A0 := RA2) (c0 := rc2) (rs0 := rs) (.inr hnr) (fun W h => (hN'.out W h).rs)
   clear hbn hown hr2 ck hlen
   go_wp2_with (first
    | go_skip
    | (refine aA rfl rfl hF ?_; clear hF; intro gg ww hF; simp only [nf] at hF)
    | (refine aB rfl rfl hF rfl ?_; clear hF; intro gg ww hF; simp only [nf] at hF)
    | (refine iL (t := 3) hF rfl rfl fun ho hx hb => ?_; refine aC (v := .int _ _) ho hb hx hF rfl rfl ?_; clear ho hx hb)
    | (refine iL hF rfl rfl fun ho hx hb => ?_; (first | refine aL ho hb hx hF rfl rfl ?_ | refine aC (v := .slice _ _ _) ho hb hx hF rfl rfl ?_ | refine aC (v := .string _) ho hb hx hF rfl rfl ?_ | refine aC (v := .bool _) ho hb hx hF rfl rfl ?_); clear ho hx hb)
    | (refine iS hF rfl rfl fun ho hx hb => ?_; (first | refine aS ho hb hx hF rfl rfl rfl rfl ?_ | refine aT (v := .int _ _) ho hb hx hF rfl rfl rfl rfl ?_ | refine aT (v := .slice _ _ _) ho hb hx hF rfl rfl rfl rfl ?_ | refine aT (v := .bool _) ho hb hx hF rfl rfl rfl rfl ?_); clear ho hx hb hF; intro ww hF; simp only [nf] at hF)
    )
   refine bodyPost_ret (results1 Tryz.results16 (res_cell 1 hF rfl rfl rfl)) rfl ⟨_, rfl, ?_, hF.below⟩
   rw [hv.out]
   have hfr : ∀ ad, A2 = some ad → w.heap.size ≤ ad.block := fun ad e => by have := hnr ad e; omega
   exact ⟨cl2, CA2, cc2, UA2, uc2, A2, c2, rfl, hfr, fun w2 h2 => (hN'.out w2 ⟨trivial, hF.data.1.2.trans (h2.up hlo)⟩).with (recs_agr hF.data.2 hfr h2)⟩
  ·
   have h1 : (r.client == client) = false := by simpa using hc
   have hv : Hid (dropL rs now client key = rs) := by show _ = _; rw [HV.out]; simp only [hc, if_false]
   clear hc HV
   go_enter Tryz.func16, Tryz.ntmps16
   go_wp2_with (first
    | go_skip
    | (refine aA rfl rfl hF ?_; clear hF; intro gg ww hF; simp only [nf] at hF)
    | (refine aB rfl rfl hF rfl ?_; clear hF; intro gg ww hF; simp only [nf] at hF)
    | (refine iL (t := 3) hF rfl rfl fun ho hx hb => ?_; refine aC (v := .int _ _) ho hb hx hF rfl rfl ?_; clear ho hx hb)
    | (refine iL hF rfl rfl fun ho hx hb => ?_; (first | refine aL ho hb hx hF rfl rfl ?_ | refine aC (v := .slice _ _ _) ho hb hx hF rfl rfl ?_ | refine aC (v := .string _) ho hb hx hF rfl rfl ?_ | refine aC (v := .bool _) ho hb hx hF rfl rfl ?_); clear ho hx hb)
    | (refine iS hF rfl rfl fun ho hx hb => ?_; (first | refine aS ho hb hx hF rfl rfl rfl rfl ?_ | refine aT (v := .int _ _) ho hb hx hF rfl rfl rfl rfl ?_ | refine aT (v := .slice _ _ _) ho hb hx hF rfl rfl rfl rfl ?_ | refine aT (v := .bool _) ho hb hx hF rfl rfl rfl rfl ?_); clear ho hx hb hF; intro ww hF; simp only [nf] at hF)
    )
   refine (cs.out _ (HS.out _ hF.below)).mono ?_
   rintro _ w1 ⟨v, rfl, ⟨cl2, CA2, cc2, UA2, uc2, RA2, rc2, rfl, hra, hN⟩, hbn⟩
   have hlo := hF.below.size
   replace hF := (hF.call hbn).grow (kp_agr fun x hx => (hF.mem hx).2)
   have hN' := Lib.hid (fun W (h : True ∧ Agr _ w1 W) => hN W h.2)
   clear hbn hN
   go_wp2_with (first
    | go_skip
    | (refine aA rfl rfl hF ?_; clear hF; intro gg ww hF; simp only [nf] at hF)
    | (refine aB rfl rfl hF rfl ?_; clear hF; intro gg ww hF; simp only [nf] at hF)
    | (refine iL (t := 3) hF rfl rfl fun ho hx hb => ?_; refine aC (v := .int _ _) ho hb hx hF rfl rfl ?_; clear ho hx hb)
    | (refine iL hF rfl rfl fun ho hx hb => ?_; (first | refine aL ho hb hx hF rfl rfl ?_ | refine aC (v := .slice _ _ _) ho hb hx hF rfl rfl ?_ | refine aC (v := .string _) ho hb hx hF rfl rfl ?_ | refine aC (v := .bool _) ho hb hx hF rfl rfl ?_); clear ho hx hb)
    | (refine iS hF rfl rfl fun ho hx hb => ?_; (first | refine aS ho hb hx hF rfl rfl rfl rfl ?_ | refine aT (v := .int _ _) ho hb hx hF rfl rfl rfl rfl ?_ | refine aT (v := .slice _ _ _) ho hb hx hF rfl rfl rfl rfl ?_ | refine aT (v := .bool _) ho hb hx hF rfl rfl rfl rfl ?_); clear ho hx hb hF; intro ww hF; simp only [nf] at hF)
    | (refine aV 83 (.agg (lsA b.nm b.key CA cl.length cc UA b.us.length uc RA rs.length rc now)) rfl (fun _ => by kernel_rfl) rfl ?_)
    )
   refine (ct.out _ (HS.out _ hF.below).rs).mono ?_
   rintro _ w2 ⟨rfl, hbn⟩
   replace hF := hF.call hbn
   clear hbn
   go_wp2_with (first
    | go_skip
    | (refine aA rfl rfl hF ?_; clear hF; intro gg ww hF; simp only [nf] at hF)
    | (refine aB rfl rfl hF rfl ?_; clear hF; intro gg ww hF; simp only [nf] at hF)
    | (refine iL (t := 3) hF rfl rfl fun ho hx hb => ?_; refine aC (v := .int _ _) ho hb hx hF rfl rfl ?_; clear ho hx hb)
    | (refine iL hF rfl rfl fun ho hx hb => ?_; (first | refine aL ho hb hx hF rfl rfl ?_ | refine aC (v := .slice _ _ _) ho hb hx hF rfl rfl ?_ | refine aC (v := .string _) ho hb hx hF rfl rfl ?_ | refine aC (v := .bool _) ho hb hx hF rfl rfl ?_); clear ho hx hb)
    | (refine iS hF rfl rfl fun ho hx hb => ?_; (first | refine aS ho hb hx hF rfl rfl rfl rfl ?_ | refine aT (v := .int _ _) ho hb hx hF rfl rfl rfl rfl ?_ | refine aT (v := .slice _ _ _) ho hb hx hF rfl rfl rfl rfl ?_ | refine aT (v := .bool _) ho hb hx hF rfl rfl rfl rfl ?_); clear ho hx hb hF; intro ww hF; simp only [nf] at hF)
    )
   refine bodyPost_ret (results1 Tryz.results16 (res_cell 1 hF rfl rfl rfl)) rfl ⟨_, rfl, ?_, hF.below⟩
   rw [hv.out]
   exact ⟨cl2, CA2, cc2, UA2, uc2, RA2, rc2, rfl, fun ad e => by have := hra ad e; omega, fun w2 h2 => hN'.out w2 ⟨trivial, hF.data.2.trans (h2.up hlo)⟩⟩
end
end Go.Proofs.YtnhjgocdepbajaaGreat
