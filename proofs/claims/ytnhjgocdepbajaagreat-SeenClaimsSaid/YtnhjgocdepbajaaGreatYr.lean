/- seen.Tell, seen.Claims. Conditions: rows of sizes that a machine bears, a time within bounds. Printed by wip/tools/genYr.py. -/
import Derived.Test.YtnhjgocdepbajaaGreatYq
set_option linter.unusedVariables false
set_option linter.unusedSimpArgs false
set_option maxRecDepth 20000
set_option maxHeartbeats 8000000
namespace Go.Proofs.YtnhjgocdepbajaaGreat
open Go.RowKit S19 C17 R
instance : ZeroIs 83 (lsA [] 0 none 0 0 none 0 0 none 0 0 0) := ⟨.agg (lsA [] 0 none 0 0 none 0 0 none 0 0 0), rfl, fun _ => by kernel_rfl⟩
def ValN (v : Jv) (w : World) (e : Ending) (w' : World) : Prop := ∃ cs : List Value, e = .returned (.agg cs.toArray) ∧ JvV w' w.heap.size v cs ∧ Below w.heap.size w w'
section
variable (b : Bs) (rs : List Rc) (now : Int) (cl : List Cl) (CA : Option Addr) (cc : Nat) (UA : Option Addr) (uc : Nat) (RA : Option Addr) (rc : Nat) (w : World) (hst : StH b rs w cl CA cc UA uc RA rc)
 (hlc : cl.length ≤ 1000000) (hlu : b.us.length ≤ 1000000)
include hst hlc hlu
theorem tell_walk (key : Int) :
  Calls Tryz.prog 13 #[.agg (stA b.nm b.key CA cl.length cc UA b.us.length uc RA rs.length rc), .int .i64 now, .int .i64 key] w (ValN (tellJ b.cls b.us (activeO rs now key)) w) := by
 have hF := Fr.nil w
 have HS := Lib.hid (fun W (hb : Below w.heap.size w W) => hst.below hb)
 have ca := Lib.hid (fun W h => active_walk b rs now key cl CA cc UA uc RA rc W h)
 have cc1 := Lib.hid (fun n W (h : StH b rs W cl CA cc UA uc RA rc) => client_walk b rs cl CA cc UA uc RA rc W h now n hlc)
 have cc2 := Lib.hid (fun n W (h : StH b rs W cl CA cc UA uc RA rc) => user_walk b rs cl CA cc UA uc RA rc W h now n hlu)
 have cO := Lib.hid object_walk
 have cS := Lib.hid words_walk
 have cI := Lib.hid number_walk
 have cB := Lib.hid flag_walk
 clear hst
 generalize activeO rs now key = o at ca
 cases o with
 | none =>
  go_enter Tryz.func13, Tryz.ntmps13
  go_wp2_with (first
   | go_skip
   | (refine aA rfl rfl hF ?_; clear hF; intro gg ww hF; simp only [nf] at hF)
   | (refine aB rfl rfl hF rfl ?_; clear hF; intro gg ww hF; simp only [nf] at hF)
   | (refine iL (t := 3) hF rfl rfl fun ho hx hb => ?_; refine aC (v := .int _ _) ho hb hx hF rfl rfl ?_; clear ho hx hb)
   | (refine iL hF rfl rfl fun ho hx hb => ?_; (first | refine aL ho hb hx hF rfl rfl ?_ | refine aC (v := .slice _ _ _) ho hb hx hF rfl rfl ?_ | refine aC (v := .string _) ho hb hx hF rfl rfl ?_ | refine aC (v := .bool _) ho hb hx hF rfl rfl ?_); clear ho hx hb)
   | (refine iS hF rfl rfl fun ho hx hb => ?_; (first | refine aS ho hb hx hF rfl rfl rfl rfl ?_ | refine aT (v := .int _ _) ho hb hx hF rfl rfl rfl rfl ?_ | refine aT (v := .slice _ _ _) ho hb hx hF rfl rfl rfl rfl ?_ | refine aT (v := .bool _) ho hb hx hF rfl rfl rfl rfl ?_); clear ho hx hb hF; intro ww hF; simp only [nf] at hF)
   )
  refine (ca.out _ (HS.out _ hF.below).rs).mono ?_
  rintro _ w1 ⟨rfl, hbn⟩
  replace hF := hF.call hbn
  clear hbn
  go_wp2_with (first
   | go_skip
   | (refine aA rfl rfl hF ?_; clear hF; intro gg ww hF; simp only [nf] at hF)
   | (refine aB rfl rfl hF rfl ?_; clear hF; intro gg ww hF; simp only [nf] at hF)
   | (refine iL (t := 3) hF rfl rfl fun ho hx hb => ?_; refine aC (v := .int _ _) ho hb hx hF rfl rfl ?_; clear ho hx hb)
   | (refine iL hF rfl rfl fun ho hx hb => ?_; (first | refine aL ho hb hx hF rfl rfl ?_ | refine aC (v := .slice _ _ _) ho hb hx hF rfl rfl ?_ | refine aC (v := .string _) ho hb hx hF rfl rfl ?_ | refine aC (v := .bool _) ho hb hx hF rfl rfl ?_); clear ho hx hb)
   | (refine iS hF rfl rfl fun ho hx hb => ?_; (first | refine aS ho hb hx hF rfl rfl rfl rfl ?_ | refine aT (v := .int _ _) ho hb hx hF rfl rfl rfl rfl ?_ | refine aT (v := .slice _ _ _) ho hb hx hF rfl rfl rfl rfl ?_ | refine aT (v := .bool _) ho hb hx hF rfl rfl rfl rfl ?_); clear ho hx hb hF; intro ww hF; simp only [nf] at hF)
   )
  refine (cB.out _ _ _).mono ?_
  rintro _ w2 ⟨rfl, hbn⟩
  replace hF := hF.call hbn
  clear hbn
  go_wp2_with (first
   | go_skip
   | (refine aA rfl rfl hF ?_; clear hF; intro gg ww hF; simp only [nf] at hF)
   | (refine aB rfl rfl hF rfl ?_; clear hF; intro gg ww hF; simp only [nf] at hF)
   | (refine iL (t := 3) hF rfl rfl fun ho hx hb => ?_; refine aC (v := .int _ _) ho hb hx hF rfl rfl ?_; clear ho hx hb)
   | (refine iL hF rfl rfl fun ho hx hb => ?_; (first | refine aL ho hb hx hF rfl rfl ?_ | refine aC (v := .slice _ _ _) ho hb hx hF rfl rfl ?_ | refine aC (v := .string _) ho hb hx hF rfl rfl ?_ | refine aC (v := .bool _) ho hb hx hF rfl rfl ?_); clear ho hx hb)
   | (refine iS hF rfl rfl fun ho hx hb => ?_; (first | refine aS ho hb hx hF rfl rfl rfl rfl ?_ | refine aT (v := .int _ _) ho hb hx hF rfl rfl rfl rfl ?_ | refine aT (v := .slice _ _ _) ho hb hx hF rfl rfl rfl rfl ?_ | refine aT (v := .bool _) ho hb hx hF rfl rfl rfl rfl ?_); clear ho hx hb hF; intro ww hF; simp only [nf] at hF)
   | (refine aD (ptCells [⟨uAct, lfB false⟩]).toArray 86 1 rfl (fun _ => by kernel_rfl) rfl hF ?_; clear hF; intro gg ww hF; simp only [nf] at hF)
   )
  refine (cO.out [⟨uAct, lfB false⟩] _ _ _ (K9.blk_reads (hF.blk 3 _ rfl).2 rfl) (by decide)).mono ?_
  rintro _ w3 ⟨NA, nc, A, c, rfl, hv, hbn⟩
  have hlo := hF.below.size
  replace hF := (hF.call hbn).grow (kp_jv hv fun x hx => (hF.mem hx).2)
  clear hv hbn
  go_wp2_with (first
   | go_skip
   | (refine aA rfl rfl hF ?_; clear hF; intro gg ww hF; simp only [nf] at hF)
   | (refine aB rfl rfl hF rfl ?_; clear hF; intro gg ww hF; simp only [nf] at hF)
   | (refine iL (t := 3) hF rfl rfl fun ho hx hb => ?_; refine aC (v := .int _ _) ho hb hx hF rfl rfl ?_; clear ho hx hb)
   | (refine iL hF rfl rfl fun ho hx hb => ?_; (first | refine aL ho hb hx hF rfl rfl ?_ | refine aC (v := .slice _ _ _) ho hb hx hF rfl rfl ?_ | refine aC (v := .string _) ho hb hx hF rfl rfl ?_ | refine aC (v := .bool _) ho hb hx hF rfl rfl ?_); clear ho hx hb)
   | (refine iS hF rfl rfl fun ho hx hb => ?_; (first | refine aS ho hb hx hF rfl rfl rfl rfl ?_ | refine aT (v := .int _ _) ho hb hx hF rfl rfl rfl rfl ?_ | refine aT (v := .slice _ _ _) ho hb hx hF rfl rfl rfl rfl ?_ | refine aT (v := .bool _) ho hb hx hF rfl rfl rfl rfl ?_); clear ho hx hb hF; intro ww hF; simp only [nf] at hF)
   )
  exact bodyPost_ret (results1 Tryz.results13 (res_cell 1 hF rfl rfl rfl)) rfl ⟨_, rfl, hF.data.2.low hlo, hF.below⟩
 | some r =>
  obtain ⟨kind, rkey, till, used, n, m, sess, fam, s1, s2, s3, s4, s5, s6, s7⟩ := r
  obtain ⟨l3, rfl⟩ : ∃ l : List UInt8, s3 = ⟨l.toArray⟩ := ⟨s3.data.toList, rfl⟩
  have c1 := Lib.hid (fun W h => cc1.out n W h)
  have c2 := Lib.hid (fun W h => cc2.out m W h)
  clear cc1 cc2
  show Calls _ _ _ _ (ValN (objJ [uAct, uCid, uSub, uSco, uExp] [lfB true, lfT (clientL b.cls n), lfT (userL b.us m), lfT l3, lfI till]) w)
  generalize clientL b.cls n = lc at c1 ⊢
  generalize userL b.us m = lu at c2 ⊢
  have c5 : Hid (∀ W g, Blk W g 86 (ptCells [⟨uAct, lfB true⟩, ⟨uCid, lfT lc⟩, ⟨uSub, lfT lu⟩, ⟨uSco, lfT l3⟩, ⟨uExp, lfI till⟩]).toArray → Calls Tryz.prog 37 #[.slice (some ⟨g, 0, none⟩) 5 5] W (ObjR [uAct, uCid, uSub, uSco, uExp] [lfB true, lfT lc, lfT lu, lfT l3, lfI till] 5 W)) := fun W g h => object_walk [⟨uAct, lfB true⟩, ⟨uCid, lfT lc⟩, ⟨uSub, lfT lu⟩, ⟨uSco, lfT l3⟩, ⟨uExp, lfI till⟩] _ 5 W (K9.blk_reads h rfl) (Nat.le_of_ble_eq_true rfl)
  clear cO
  go_enter Tryz.func13, Tryz.ntmps13
  go_wp2_with (first
   | go_skip
   | (refine aA rfl rfl hF ?_; clear hF; intro gg ww hF; simp only [nf] at hF)
   | (refine aB rfl rfl hF rfl ?_; clear hF; intro gg ww hF; simp only [nf] at hF)
   | (refine iL (t := 3) hF rfl rfl fun ho hx hb => ?_; refine aC (v := .int _ _) ho hb hx hF rfl rfl ?_; clear ho hx hb)
   | (refine iL hF rfl rfl fun ho hx hb => ?_; (first | refine aL ho hb hx hF rfl rfl ?_ | refine aC (v := .slice _ _ _) ho hb hx hF rfl rfl ?_ | refine aC (v := .string _) ho hb hx hF rfl rfl ?_ | refine aC (v := .bool _) ho hb hx hF rfl rfl ?_); clear ho hx hb)
   | (refine iS hF rfl rfl fun ho hx hb => ?_; (first | refine aS ho hb hx hF rfl rfl rfl rfl ?_ | refine aT (v := .int _ _) ho hb hx hF rfl rfl rfl rfl ?_ | refine aT (v := .slice _ _ _) ho hb hx hF rfl rfl rfl rfl ?_ | refine aT (v := .bool _) ho hb hx hF rfl rfl rfl rfl ?_); clear ho hx hb hF; intro ww hF; simp only [nf] at hF)
   )
  refine (ca.out _ (HS.out _ hF.below).rs).mono ?_
  rintro _ w1 ⟨rfl, hbn⟩
  replace hF := hF.call hbn
  clear hbn ca
  go_wp2_with (first
   | go_skip
   | (refine aA rfl rfl hF ?_; clear hF; intro gg ww hF; simp only [nf] at hF)
   | (refine aB rfl rfl hF rfl ?_; clear hF; intro gg ww hF; simp only [nf] at hF)
   | (refine iL (t := 3) hF rfl rfl fun ho hx hb => ?_; refine aC (v := .int _ _) ho hb hx hF rfl rfl ?_; clear ho hx hb)
   | (refine iL hF rfl rfl fun ho hx hb => ?_; (first | refine aL ho hb hx hF rfl rfl ?_ | refine aC (v := .slice _ _ _) ho hb hx hF rfl rfl ?_ | refine aC (v := .string _) ho hb hx hF rfl rfl ?_ | refine aC (v := .bool _) ho hb hx hF rfl rfl ?_); clear ho hx hb)
   | (refine iS hF rfl rfl fun ho hx hb => ?_; (first | refine aS ho hb hx hF rfl rfl rfl rfl ?_ | refine aT (v := .int _ _) ho hb hx hF rfl rfl rfl rfl ?_ | refine aT (v := .slice _ _ _) ho hb hx hF rfl rfl rfl rfl ?_ | refine aT (v := .bool _) ho hb hx hF rfl rfl rfl rfl ?_); clear ho hx hb hF; intro ww hF; simp only [nf] at hF)
   | (refine aV 83 (.agg (lsA b.nm b.key CA cl.length cc UA b.us.length uc RA rs.length rc now)) rfl (fun _ => by kernel_rfl) rfl ?_)
   )
  refine rgw [20] [_, _] hF (.cons _ (.cons _ (.cons_cons _ (.cons_cons _ .slnil)))) fun hF => ?_
  refine tkb 1 1 [20] rfl rfl rfl rfl rfl ?_
  try simp only [nrm, Act.put]
  refine tkf 2 rfl ?_
  try simp only [nrm, Act.put]
  refine tkc 3 0 [20] (v := .int _ _) rfl rfl rfl rfl rfl ?_
  try simp only [nrm, Act.put]
  refine tkb 6 1 [20] rfl rfl rfl rfl rfl ?_
  try simp only [nrm, Act.put]
  refine tkf 7 rfl ?_
  try simp only [nrm, Act.put]
  refine tkc 8 0 [20] (v := .int _ _) rfl rfl rfl rfl rfl ?_
  try simp only [nrm, Act.put]
  refine tkf 11 rfl ?_
  try simp only [nrm, Act.put]
  refine tkf 12 rfl ?_
  try simp only [nrm, Act.put]
  refine tkc 13 0 [20] (v := .string _) rfl rfl rfl rfl rfl ?_
  try simp only [nrm, Act.put]
  refine tkf 15 rfl ?_
  try simp only [nrm, Act.put]
  refine tkc 16 0 [20] (v := .int _ _) rfl rfl rfl rfl rfl ?_
  try simp only [nrm, Act.put]
  refine rdw 0 rfl fun K hK => ?_
  go_simp
  go_at_call 38
  with_reducible refine (cB.out _ _ _).mono ?_
  rintro _ ww ⟨rfl, hbn⟩
  replace hF := hF.call hbn
  refine hK.out _ _ (by (first | exact HoldA.past rfl | exact HoldA.of (by assumption) _ | exact HoldA.of (Fr.sub hF (by repeat (first | exact List.Sublist.slnil | apply List.Sublist.cons_cons | apply List.Sublist.cons))) _)) (fun _ => ?_)
  clear hK K; try clear hbn
  try simp only [nrm, Act.put]
  refine rdw 4 rfl fun K hK => ?_
  go_simp
  go_at_call 40
  with_reducible refine (c1.out _ (HS.out _ hF.below)).mono ?_
  rintro _ ww ⟨rfl, hbn⟩
  replace hF := hF.call hbn
  refine hK.out _ _ (by (first | exact HoldA.past rfl | exact HoldA.of (by assumption) _ | exact HoldA.of (Fr.sub hF (by repeat (first | exact List.Sublist.slnil | apply List.Sublist.cons_cons | apply List.Sublist.cons))) _)) (fun _ => ?_)
  clear hK K; try clear hbn
  try simp only [nrm, Act.put]
  refine rdw 5 rfl fun K hK => ?_
  go_simp
  go_at_call 39
  with_reducible refine (cS.out _ _ _).mono ?_
  rintro _ ww ⟨rfl, hbn⟩
  replace hF := hF.call hbn
  refine hK.out _ _ (by (first | exact HoldA.past rfl | exact HoldA.of (by assumption) _ | exact HoldA.of (Fr.sub hF (by repeat (first | exact List.Sublist.slnil | apply List.Sublist.cons_cons | apply List.Sublist.cons))) _)) (fun _ => ?_)
  clear hK K; try clear hbn
  try simp only [nrm, Act.put]
  refine rdw 9 rfl fun K hK => ?_
  go_simp
  go_at_call 41
  with_reducible refine (c2.out _ (HS.out _ hF.below)).mono ?_
  rintro _ ww ⟨rfl, hbn⟩
  replace hF := hF.call hbn
  refine hK.out _ _ (by (first | exact HoldA.past rfl | exact HoldA.of (by assumption) _ | exact HoldA.of (Fr.sub hF (by repeat (first | exact List.Sublist.slnil | apply List.Sublist.cons_cons | apply List.Sublist.cons))) _)) (fun _ => ?_)
  clear hK K; try clear hbn
  try simp only [nrm, Act.put]
  refine rdw 10 rfl fun K hK => ?_
  go_simp
  go_at_call 39
  with_reducible refine (cS.out _ _ _).mono ?_
  rintro _ ww ⟨rfl, hbn⟩
  replace hF := hF.call hbn
  refine hK.out _ _ (by (first | exact HoldA.past rfl | exact HoldA.of (by assumption) _ | exact HoldA.of (Fr.sub hF (by repeat (first | exact List.Sublist.slnil | apply List.Sublist.cons_cons | apply List.Sublist.cons))) _)) (fun _ => ?_)
  clear hK K; try clear hbn
  try simp only [nrm, Act.put]
  refine rdw 14 rfl fun K hK => ?_
  go_simp
  go_at_call 39
  with_reducible refine (cS.out _ _ _).mono ?_
  rintro _ ww ⟨rfl, hbn⟩
  replace hF := hF.call hbn
  refine hK.out _ _ (by (first | exact HoldA.past rfl | exact HoldA.of (by assumption) _ | exact HoldA.of (Fr.sub hF (by repeat (first | exact List.Sublist.slnil | apply List.Sublist.cons_cons | apply List.Sublist.cons))) _)) (fun _ => ?_)
  clear hK K; try clear hbn
  try simp only [nrm, Act.put]
  refine rdw 17 rfl fun K hK => ?_
  go_simp
  go_at_call 42
  with_reducible refine (cI.out _ _ _).mono ?_
  rintro _ ww ⟨rfl, hbn⟩
  replace hF := hF.call hbn
  refine hK.out _ _ (by (first | exact HoldA.past rfl | exact HoldA.of (by assumption) _ | exact HoldA.of (Fr.sub hF (by repeat (first | exact List.Sublist.slnil | apply List.Sublist.cons_cons | apply List.Sublist.cons))) _)) (fun _ => ?_)
  clear hK K; try clear hbn
  try simp only [nrm, Act.put]
  refine rdw 18 rfl fun K hK => ?_
  refine bsv (ptCells [⟨uAct, lfB true⟩, ⟨uCid, lfT lc⟩, ⟨uSub, lfT lu⟩, ⟨uSco, lfT l3⟩, ⟨uExp, lfI till⟩]).toArray 86 5 hF rfl (fun _ => by kernel_rfl) ?_
  clear hF; intro gg ww hF; simp only [nf] at hF
  refine hK.out _ _ (HoldA.of (Fr.sub hF (by repeat (first | exact List.Sublist.slnil | apply List.Sublist.cons_cons | apply List.Sublist.cons))) _) (fun _ => ?_)
  clear hK K
  try simp only [nrm, Act.put]
  have hbk : Blk _ gg _ _ := (hF.blk 4 _ rfl).2
  refine rdw 19 rfl fun K hK => ?_
  go_simp
  go_at_call 37
  with_reducible refine (c5.out _ _ hbk).mono ?_
  rintro _ ww ⟨NA, nc, A, c, rfl, hv, hbn⟩
  have hlo := hF.below.size
  have hF0 := (hF.call hbn).sub (show List.Sublist [_, _] _ from .cons _ (.cons _ (.cons_cons _ (.cons_cons _ (.cons _ .slnil)))))
  replace hF := (hF.call hbn).grow (kp_jv hv fun x hx => (hF.mem hx).2)
  refine hK.out _ _ (by (first | exact HoldA.past rfl | exact HoldA.of (by assumption) _ | exact HoldA.of (Fr.sub hF (by repeat (first | exact List.Sublist.slnil | apply List.Sublist.cons_cons | apply List.Sublist.cons))) _)) (fun _ => ?_)
  clear hK K; try clear hbn
  try simp only [nrm, Act.put]
  clear hv hF0 hbk
  refine stw 20 1 hF rfl rfl rfl rfl rfl rfl rfl rfl ?_
  clear hF; intro ww hF; simp only [nf] at hF
  try simp only [nrm, Act.put]
  refine dnw ?_
  go_wp2_with (first
   | go_skip
   | (refine aA rfl rfl hF ?_; clear hF; intro gg ww hF; simp only [nf] at hF)
   | (refine aB rfl rfl hF rfl ?_; clear hF; intro gg ww hF; simp only [nf] at hF)
   | (refine iL (t := 3) hF rfl rfl fun ho hx hb => ?_; refine aC (v := .int _ _) ho hb hx hF rfl rfl ?_; clear ho hx hb)
   | (refine iL hF rfl rfl fun ho hx hb => ?_; (first | refine aL ho hb hx hF rfl rfl ?_ | refine aC (v := .slice _ _ _) ho hb hx hF rfl rfl ?_ | refine aC (v := .string _) ho hb hx hF rfl rfl ?_ | refine aC (v := .bool _) ho hb hx hF rfl rfl ?_); clear ho hx hb)
   | (refine iS hF rfl rfl fun ho hx hb => ?_; (first | refine aS ho hb hx hF rfl rfl rfl rfl ?_ | refine aT (v := .int _ _) ho hb hx hF rfl rfl rfl rfl ?_ | refine aT (v := .slice _ _ _) ho hb hx hF rfl rfl rfl rfl ?_ | refine aT (v := .bool _) ho hb hx hF rfl rfl rfl rfl ?_); clear ho hx hb hF; intro ww hF; simp only [nf] at hF)
   )
  exact bodyPost_ret (results1 Tryz.results13 (res_cell 1 hF rfl rfl rfl)) rfl ⟨_, rfl, hF.data.2.low hlo, hF.below⟩
theorem claims_walk (r : Rc) (hnow : 0 ≤ now ∧ now ≤ 1099511627776) (hnm : b.nm.length ≤ 1000000) :
  Calls Tryz.prog 18 #[.agg (stA b.nm b.key CA cl.length cc UA b.us.length uc RA rs.length rc), .int .i64 now, .agg r.arr] w (ValN (claimsJ b now r) w) := by
 have hF := Fr.nil w
 have HS := Lib.hid (fun W (hb : Below w.heap.size w W) => hst.below hb)
 have cc1 := Lib.hid (fun n W (h : StH b rs W cl CA cc UA uc RA rc) => client_walk b rs cl CA cc UA uc RA rc W h now n hlc)
 have cc2 := Lib.hid (fun n W (h : StH b rs W cl CA cc UA uc RA rc) => user_walk b rs cl CA cc UA uc RA rc W h now n hlu)
 have cO := Lib.hid object_walk
 have cS := Lib.hid words_walk
 have cI := Lib.hid number_walk
 have cU := Lib.hid (fun W => puntil_walk now W hnow.1 hnow.2)
 clear hst
 obtain ⟨kind, rkey, till, used, n, m, sess, fam, s1, s2, s3, s4, s5, s6, s7⟩ := r
 obtain ⟨l5, rfl⟩ : ∃ l : List UInt8, s5 = ⟨l.toArray⟩ := ⟨s5.data.toList, rfl⟩
 have c1 := Lib.hid (fun W h => cc1.out n W h)
 have c2 := Lib.hid (fun W h => cc2.out m W h)
 clear cc1 cc2
 show Calls _ _ _ _ (ValN (objJ [uIss, uSub, uAud, uExp, uIat, uNon] [lfT (uHtt ++ b.nm), lfT (userL b.us m), lfT (clientL b.cls n), lfI (untilI now 300), lfI now, lfT l5]) w)
 generalize clientL b.cls n = lc at c1 ⊢
 generalize userL b.us m = lu at c2 ⊢
 generalize untilI now 300 = lt at cU ⊢
 have happ : (⟨#[104, 116, 116, 112, 115, 58, 47, 47]⟩ : ByteArray) ++ ⟨b.nm.toArray⟩ = ⟨(uHtt ++ b.nm).toArray⟩ := by
  apply ByteArray.ext
  rw [ByteArray.data_append]
  simp [uHtt]
 have c6' : Hid (∀ W g, Blk W g 86 (ptCells [⟨uIss, lfT (uHtt ++ b.nm)⟩, ⟨uSub, lfT lu⟩, ⟨uAud, lfT lc⟩, ⟨uExp, lfI lt⟩, ⟨uIat, lfI now⟩, ⟨uNon, lfT l5⟩]).toArray → Calls Tryz.prog 37 #[.slice (some ⟨g, 0, none⟩) 6 6] W (ObjR [uIss, uSub, uAud, uExp, uIat, uNon] [lfT (uHtt ++ b.nm), lfT lu, lfT lc, lfI lt, lfI now, lfT l5] 6 W)) := fun W g h => object_walk [⟨uIss, lfT (uHtt ++ b.nm)⟩, ⟨uSub, lfT lu⟩, ⟨uAud, lfT lc⟩, ⟨uExp, lfI lt⟩, ⟨uIat, lfI now⟩, ⟨uNon, lfT l5⟩] _ 6 W (K9.blk_reads h rfl) (Nat.le_of_ble_eq_true rfl)
 clear cO
 go_enter Tryz.func18, Tryz.ntmps18
 go_wp2_with (first
  | go_skip
  | (refine aA rfl rfl hF ?_; clear hF; intro gg ww hF; simp only [nf] at hF)
  | (refine aB rfl rfl hF rfl ?_; clear hF; intro gg ww hF; simp only [nf] at hF)
  | (refine iL (t := 3) hF rfl rfl fun ho hx hb => ?_; refine aC (v := .int _ _) ho hb hx hF rfl rfl ?_; clear ho hx hb)
  | (refine iL hF rfl rfl fun ho hx hb => ?_; (first | refine aL ho hb hx hF rfl rfl ?_ | refine aC (v := .slice _ _ _) ho hb hx hF rfl rfl ?_ | refine aC (v := .string _) ho hb hx hF rfl rfl ?_ | refine aC (v := .bool _) ho hb hx hF rfl rfl ?_); clear ho hx hb)
  | (refine iS hF rfl rfl fun ho hx hb => ?_; (first | refine aS ho hb hx hF rfl rfl rfl rfl ?_ | refine aT (v := .int _ _) ho hb hx hF rfl rfl rfl rfl ?_ | refine aT (v := .slice _ _ _) ho hb hx hF rfl rfl rfl rfl ?_ | refine aT (v := .bool _) ho hb hx hF rfl rfl rfl rfl ?_); clear ho hx hb hF; intro ww hF; simp only [nf] at hF)
  | (refine aV 83 (.agg (lsA b.nm b.key CA cl.length cc UA b.us.length uc RA rs.length rc now)) rfl (fun _ => by kernel_rfl) rfl ?_)
  )
 refine rgw [25] [_, _, _] hF (.cons_cons _ (.cons_cons _ (.cons _ (.cons_cons _ .slnil)))) fun hF => ?_
 refine tkf 0 rfl ?_
 try simp only [nrm, Act.put]
 refine tkc 1 0 [25] (v := .string _) rfl rfl rfl rfl rfl ?_
 try simp only [nrm, Act.put]
 refine tkf 2 rfl ?_ (v := .string ⟨(uHtt ++ b.nm).toArray⟩) (hv := by intro W; go_simp; omega)
 try simp only [nrm, Act.put]
 refine tkb 4 2 [25] rfl rfl rfl rfl rfl ?_
 try simp only [nrm, Act.put]
 refine tkf 5 rfl ?_
 try simp only [nrm, Act.put]
 refine tkc 6 1 [25] (v := .int _ _) rfl rfl rfl rfl rfl ?_
 try simp only [nrm, Act.put]
 refine tkb 9 2 [25] rfl rfl rfl rfl rfl ?_
 try simp only [nrm, Act.put]
 refine tkf 10 rfl ?_
 try simp only [nrm, Act.put]
 refine tkc 11 1 [25] (v := .int _ _) rfl rfl rfl rfl rfl ?_
 try simp only [nrm, Act.put]
 refine tkf 14 rfl ?_
 try simp only [nrm, Act.put]
 refine tkf 17 rfl ?_
 try simp only [nrm, Act.put]
 refine tkf 19 rfl ?_
 try simp only [nrm, Act.put]
 refine tkf 20 rfl ?_
 try simp only [nrm, Act.put]
 refine tkc 21 1 [25] (v := .string _) rfl rfl rfl rfl rfl ?_
 try simp only [nrm, Act.put]
 refine rdw 3 rfl fun K hK => ?_
 go_simp
 go_at_call 39
 with_reducible refine (cS.out _ _ _).mono ?_
 rintro _ ww ⟨rfl, hbn⟩
 replace hF := hF.call hbn
 refine hK.out _ _ (by (first | exact HoldA.past rfl | exact HoldA.of (by assumption) _ | exact HoldA.of (Fr.sub hF (by repeat (first | exact List.Sublist.slnil | apply List.Sublist.cons_cons | apply List.Sublist.cons))) _)) (fun _ => ?_)
 clear hK K; try clear hbn
 try simp only [nrm, Act.put]
 refine rdw 7 rfl fun K hK => ?_
 go_simp
 go_at_call 41
 with_reducible refine (c2.out _ (HS.out _ hF.below)).mono ?_
 rintro _ ww ⟨rfl, hbn⟩
 replace hF := hF.call hbn
 refine hK.out _ _ (by (first | exact HoldA.past rfl | exact HoldA.of (by assumption) _ | exact HoldA.of (Fr.sub hF (by repeat (first | exact List.Sublist.slnil | apply List.Sublist.cons_cons | apply List.Sublist.cons))) _)) (fun _ => ?_)
 clear hK K; try clear hbn
 try simp only [nrm, Act.put]
 refine rdw 8 rfl fun K hK => ?_
 go_simp
 go_at_call 39
 with_reducible refine (cS.out _ _ _).mono ?_
 rintro _ ww ⟨rfl, hbn⟩
 replace hF := hF.call hbn
 refine hK.out _ _ (by (first | exact HoldA.past rfl | exact HoldA.of (by assumption) _ | exact HoldA.of (Fr.sub hF (by repeat (first | exact List.Sublist.slnil | apply List.Sublist.cons_cons | apply List.Sublist.cons))) _)) (fun _ => ?_)
 clear hK K; try clear hbn
 try simp only [nrm, Act.put]
 refine rdw 12 rfl fun K hK => ?_
 go_simp
 go_at_call 40
 with_reducible refine (c1.out _ (HS.out _ hF.below)).mono ?_
 rintro _ ww ⟨rfl, hbn⟩
 replace hF := hF.call hbn
 refine hK.out _ _ (by (first | exact HoldA.past rfl | exact HoldA.of (by assumption) _ | exact HoldA.of (Fr.sub hF (by repeat (first | exact List.Sublist.slnil | apply List.Sublist.cons_cons | apply List.Sublist.cons))) _)) (fun _ => ?_)
 clear hK K; try clear hbn
 try simp only [nrm, Act.put]
 refine rdw 13 rfl fun K hK => ?_
 go_simp
 go_at_call 39
 with_reducible refine (cS.out _ _ _).mono ?_
 rintro _ ww ⟨rfl, hbn⟩
 replace hF := hF.call hbn
 refine hK.out _ _ (by (first | exact HoldA.past rfl | exact HoldA.of (by assumption) _ | exact HoldA.of (Fr.sub hF (by repeat (first | exact List.Sublist.slnil | apply List.Sublist.cons_cons | apply List.Sublist.cons))) _)) (fun _ => ?_)
 clear hK K; try clear hbn
 try simp only [nrm, Act.put]
 refine rdw 15 rfl fun K hK => ?_
 go_simp
 go_at_call 51
 with_reducible refine (cU.out _).mono ?_
 rintro _ ww ⟨rfl, hbn⟩
 replace hF := hF.call hbn
 refine hK.out _ _ (by (first | exact HoldA.past rfl | exact HoldA.of (by assumption) _ | exact HoldA.of (Fr.sub hF (by repeat (first | exact List.Sublist.slnil | apply List.Sublist.cons_cons | apply List.Sublist.cons))) _)) (fun _ => ?_)
 clear hK K; try clear hbn
 try simp only [nrm, Act.put]
 refine rdw 16 rfl fun K hK => ?_
 go_simp
 go_at_call 42
 with_reducible refine (cI.out _ _ _).mono ?_
 rintro _ ww ⟨rfl, hbn⟩
 replace hF := hF.call hbn
 refine hK.out _ _ (by (first | exact HoldA.past rfl | exact HoldA.of (by assumption) _ | exact HoldA.of (Fr.sub hF (by repeat (first | exact List.Sublist.slnil | apply List.Sublist.cons_cons | apply List.Sublist.cons))) _)) (fun _ => ?_)
 clear hK K; try clear hbn
 try simp only [nrm, Act.put]
 refine rdw 18 rfl fun K hK => ?_
 go_simp
 go_at_call 42
 with_reducible refine (cI.out _ _ _).mono ?_
 rintro _ ww ⟨rfl, hbn⟩
 replace hF := hF.call hbn
 refine hK.out _ _ (by (first | exact HoldA.past rfl | exact HoldA.of (by assumption) _ | exact HoldA.of (Fr.sub hF (by repeat (first | exact List.Sublist.slnil | apply List.Sublist.cons_cons | apply List.Sublist.cons))) _)) (fun _ => ?_)
 clear hK K; try clear hbn
 try simp only [nrm, Act.put]
 refine rdw 22 rfl fun K hK => ?_
 go_simp
 go_at_call 39
 with_reducible refine (cS.out _ _ _).mono ?_
 rintro _ ww ⟨rfl, hbn⟩
 replace hF := hF.call hbn
 refine hK.out _ _ (by (first | exact HoldA.past rfl | exact HoldA.of (by assumption) _ | exact HoldA.of (Fr.sub hF (by repeat (first | exact List.Sublist.slnil | apply List.Sublist.cons_cons | apply List.Sublist.cons))) _)) (fun _ => ?_)
 clear hK K; try clear hbn
 try simp only [nrm, Act.put]
 refine rdw 23 rfl fun K hK => ?_
 refine bsv (ptCells [⟨uIss, lfT (uHtt ++ b.nm)⟩, ⟨uSub, lfT lu⟩, ⟨uAud, lfT lc⟩, ⟨uExp, lfI lt⟩, ⟨uIat, lfI now⟩, ⟨uNon, lfT l5⟩]).toArray 86 6 hF rfl (fun _ => by kernel_rfl) ?_
 clear hF; intro gg ww hF; simp only [nf] at hF
 refine hK.out _ _ (HoldA.of (Fr.sub hF (by repeat (first | exact List.Sublist.slnil | apply List.Sublist.cons_cons | apply List.Sublist.cons))) _) (fun _ => ?_)
 clear hK K
 try simp only [nrm, Act.put]
 have hbk : Blk _ gg _ _ := (hF.blk 4 _ rfl).2
 refine rdw 24 rfl fun K hK => ?_
 go_simp
 go_at_call 37
 with_reducible refine (c6'.out _ _ hbk).mono ?_
 rintro _ ww ⟨NA, nc, A, c, rfl, hv, hbn⟩
 have hlo := hF.below.size
 have hF0 := (hF.call hbn).sub (show List.Sublist [_, _, _] _ from .cons_cons _ (.cons_cons _ (.cons _ (.cons_cons _ (.cons _ .slnil)))))
 replace hF := (hF.call hbn).grow (kp_jv hv fun x hx => (hF.mem hx).2)
 refine hK.out _ _ (by (first | exact HoldA.past rfl | exact HoldA.of (by assumption) _ | exact HoldA.of (Fr.sub hF (by repeat (first | exact List.Sublist.slnil | apply List.Sublist.cons_cons | apply List.Sublist.cons))) _)) (fun _ => ?_)
 clear hK K; try clear hbn
 try simp only [nrm, Act.put]
 clear hv hF0 hbk
 refine stw 25 2 hF rfl rfl rfl rfl rfl rfl rfl rfl ?_
 clear hF; intro ww hF; simp only [nf] at hF
 try simp only [nrm, Act.put]
 refine dnw ?_
 go_wp2_with (first
  | go_skip
  | (refine aA rfl rfl hF ?_; clear hF; intro gg ww hF; simp only [nf] at hF)
  | (refine aB rfl rfl hF rfl ?_; clear hF; intro gg ww hF; simp only [nf] at hF)
  | (refine iL (t := 3) hF rfl rfl fun ho hx hb => ?_; refine aC (v := .int _ _) ho hb hx hF rfl rfl ?_; clear ho hx hb)
  | (refine iL hF rfl rfl fun ho hx hb => ?_; (first | refine aL ho hb hx hF rfl rfl ?_ | refine aC (v := .slice _ _ _) ho hb hx hF rfl rfl ?_ | refine aC (v := .string _) ho hb hx hF rfl rfl ?_ | refine aC (v := .bool _) ho hb hx hF rfl rfl ?_); clear ho hx hb)
  | (refine iS hF rfl rfl fun ho hx hb => ?_; (first | refine aS ho hb hx hF rfl rfl rfl rfl ?_ | refine aT (v := .int _ _) ho hb hx hF rfl rfl rfl rfl ?_ | refine aT (v := .slice _ _ _) ho hb hx hF rfl rfl rfl rfl ?_ | refine aT (v := .bool _) ho hb hx hF rfl rfl rfl rfl ?_); clear ho hx hb hF; intro ww hF; simp only [nf] at hF)
  )
 exact bodyPost_ret (results1 Tryz.results18 (res_cell 2 hF rfl rfl rfl)) rfl ⟨_, rfl, hF.data.2.low hlo, hF.below⟩
end
end Go.Proofs.YtnhjgocdepbajaaGreat
