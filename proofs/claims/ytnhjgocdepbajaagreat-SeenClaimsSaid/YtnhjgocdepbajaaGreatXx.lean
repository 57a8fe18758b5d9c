/- What a token is good for: countersignref23.token, Active, Drop. No condition of its own. -/
import Derived.Test.YtnhjgocdepbajaaGreatXo
set_option linter.unusedVariables false
set_option linter.unusedSimpArgs false
set_option maxRecDepth 20000
set_option maxHeartbeats 1000000
namespace Go.Proofs.YtnhjgocdepbajaaGreat
open Go.RowKit S19 C17 R
def RecO (o : Option Rc) (w : World) (e : Ending) (w' : World) : Prop := e = .returned (.tuple #[.agg (o.getD Rc.none).arr, .bool o.isSome]) ∧ Below w.heap.size w w'
section
variable (b : Bs) (rs : List Rc) (now key : Int) (cl : List Cl) (CA : Option Addr) (cc : Nat) (UA : Option Addr) (uc : Nat) (RA : Option Addr) (rc : Nat) (w : World) (hr : RecsAt w RA rc rs)
include hr
theorem rtoken_walk :
  Calls Tryz.prog 36 #[.agg (stA b.nm b.key CA cl.length cc UA b.us.length uc RA rs.length rc), .int .i64 now, .int .i64 key] w (RecO (tokenO rs now key) w) := by
 have hF := Fr.start w (kp_start hr)
 have c5 := Lib.hid (fun W h => S19.rfind_walk rs RA rc now 5 key W h)
 have c6 := Lib.hid (fun W h => S19.rfind_walk rs RA rc now 6 key W h)
 have HV : Hid (tokenO rs now key = match findO rs now 5 key with
  | some r => some r
  | none => findO rs now 6 key) := rfl
 generalize findO rs now 5 key = o5 at c5 HV
 generalize findO rs now 6 key = o6 at c6 HV
 clear hr
 cases o5 with
 | none =>
  have hv : Hid (tokenO rs now key = o6) := HV.out
  go_enter Tryz.func36, Tryz.ntmps36
  go_wp2_with (first
   | go_skip
   | (refine aA rfl rfl hF ?_; clear hF; intro gg ww hF; simp only [nf] at hF)
   | (refine aB rfl rfl hF rfl ?_; clear hF; intro gg ww hF; simp only [nf] at hF)
   | (refine iL (t := 3) hF rfl rfl fun ho hx hb => ?_; refine aC (v := .int _ _) ho hb hx hF rfl rfl ?_; clear ho hx hb)
   | (refine iL hF rfl rfl fun ho hx hb => ?_; (first | refine aL ho hb hx hF rfl rfl ?_ | refine aC (v := .slice _ _ _) ho hb hx hF rfl rfl ?_ | refine aC (v := .string _) ho hb hx hF rfl rfl ?_ | refine aC (v := .bool _) ho hb hx hF rfl rfl ?_); clear ho hx hb)
   | (refine iS hF rfl rfl fun ho hx hb => ?_; (first | refine aS ho hb hx hF rfl rfl rfl rfl ?_ | refine aT (v := .int _ _) ho hb hx hF rfl rfl rfl rfl ?_ | refine aT (v := .slice _ _ _) ho hb hx hF rfl rfl rfl rfl ?_ | refine aT (v := .bool _) ho hb hx hF rfl rfl rfl rfl ?_); clear ho hx hb hF; intro ww hF; simp only [nf] at hF)
   )
  refine (c5.out _ hF.data).mono ?_
  rintro _ w1 ⟨rfl, hbn⟩
  replace hF := hF.call hbn
  clear hbn
  go_wp2_with (first
   | go_skip
   | (refine aA rfl rfl hF ?_; clear hF; intro gg ww hF; simp only [nf] at hF)
   | (refine aB rfl rfl hF rfl ?_; clear hF; intro gg ww hF; simp only [nf] at hF)
   | (refine iL (t := 3) hF rfl rfl fun ho hx hb => ?_; refine aC (v := .int _ _) ho hb hx hF rfl rfl ?_; clear ho hx hb)
   | (refine iL hF rfl rfl fun ho hx hb => ?_; (first | refine aL ho hb hx hF rfl rfl ?_ | refine aC (v := .slice _ _ _) ho hb hx hF rfl rfl ?_ | refine aC (v := .string _) ho hb hx hF rfl rfl ?_ | refine aC (v := .bool _) ho hb hx hF rfl rfl ?_); clear ho hx hb)
   | (refine iS hF rfl rfl fun ho hx hb => ?_; (first | refine aS ho hb hx hF rfl rfl rfl rfl ?_ | refine aT (v := .int _ _) ho hb hx hF rfl rfl rfl rfl ?_ | refine aT (v := .slice _ _ _) ho hb hx hF rfl rfl rfl rfl ?_ | refine aT (v := .bool _) ho hb hx hF rfl rfl rfl rfl ?_); clear ho hx hb hF; intro ww hF; simp only [nf] at hF)
   )
  refine (c6.out _ hF.data).mono ?_
  rintro _ w2 ⟨rfl, hbn⟩
  replace hF := hF.call hbn
  clear hbn
  go_wp2_with (first
   | go_skip
   | (refine aA rfl rfl hF ?_; clear hF; intro gg ww hF; simp only [nf] at hF)
   | (refine aB rfl rfl hF rfl ?_; clear hF; intro gg ww hF; simp only [nf] at hF)
   | (refine iL (t := 3) hF rfl rfl fun ho hx hb => ?_; refine aC (v := .int _ _) ho hb hx hF rfl rfl ?_; clear ho hx hb)
   | (refine iL hF rfl rfl fun ho hx hb => ?_; (first | refine aL ho hb hx hF rfl rfl ?_ | refine aC (v := .slice _ _ _) ho hb hx hF rfl rfl ?_ | refine aC (v := .string _) ho hb hx hF rfl rfl ?_ | refine aC (v := .bool _) ho hb hx hF rfl rfl ?_); clear ho hx hb)
   | (refine iS hF rfl rfl fun ho hx hb => ?_; (first | refine aS ho hb hx hF rfl rfl rfl rfl ?_ | refine aT (v := .int _ _) ho hb hx hF rfl rfl rfl rfl ?_ | refine aT (v := .slice _ _ _) ho hb hx hF rfl rfl rfl rfl ?_ | refine aT (v := .bool _) ho hb hx hF rfl rfl rfl rfl ?_); clear ho hx hb hF; intro ww hF; simp only [nf] at hF)
   )
  refine bodyPost_ret (results2 Tryz.results36 (res_cell 1 hF rfl rfl rfl) (.tmp _)) rfl ⟨by rw [hv.out]; rfl, hF.below⟩
 | some r =>
  have hv : Hid (tokenO rs now key = some r) := HV.out
  go_enter Tryz.func36, Tryz.ntmps36
  go_wp2_with (first
   | go_skip
   | (refine aA rfl rfl hF ?_; clear hF; intro gg ww hF; simp only [nf] at hF)
   | (refine aB rfl rfl hF rfl ?_; clear hF; intro gg ww hF; simp only [nf] at hF)
   | (refine iL (t := 3) hF rfl rfl fun ho hx hb => ?_; refine aC (v := .int _ _) ho hb hx hF rfl rfl ?_; clear ho hx hb)
   | (refine iL hF rfl rfl fun ho hx hb => ?_; (first | refine aL ho hb hx hF rfl rfl ?_ | refine aC (v := .slice _ _ _) ho hb hx hF rfl rfl ?_ | refine aC (v := .string _) ho hb hx hF rfl rfl ?_ | refine aC (v := .bool _) ho hb hx hF rfl rfl ?_); clear ho hx hb)
   | (refine iS hF rfl rfl fun ho hx hb => ?_; (first | refine aS ho hb hx hF rfl rfl rfl rfl ?_ | refine aT (v := .int _ _) ho hb hx hF rfl rfl rfl rfl ?_ | refine aT (v := .slice _ _ _) ho hb hx hF rfl rfl rfl rfl ?_ | refine aT (v := .bool _) ho hb hx hF rfl rfl rfl rfl ?_); clear ho hx hb hF; intro ww hF; simp only [nf] at hF)
   )
  refine (c5.out _ hF.data).mono ?_
  rintro _ w1 ⟨rfl, hbn⟩
  replace hF := hF.call hbn
  clear hbn
  go_wp2_with (first
   | go_skip
   | (refine aA rfl rfl hF ?_; clear hF; intro gg ww hF; simp only [nf] at hF)
   | (refine aB rfl rfl hF rfl ?_; clear hF; intro gg ww hF; simp only [nf] at hF)
   | (refine iL (t := 3) hF rfl rfl fun ho hx hb => ?_; refine aC (v := .int _ _) ho hb hx hF rfl rfl ?_; clear ho hx hb)
   | (refine iL hF rfl rfl fun ho hx hb => ?_; (first | refine aL ho hb hx hF rfl rfl ?_ | refine aC (v := .slice _ _ _) ho hb hx hF rfl rfl ?_ | refine aC (v := .string _) ho hb hx hF rfl rfl ?_ | refine aC (v := .bool _) ho hb hx hF rfl rfl ?_); clear ho hx hb)
   | (refine iS hF rfl rfl fun ho hx hb => ?_; (first | refine aS ho hb hx hF rfl rfl rfl rfl ?_ | refine aT (v := .int _ _) ho hb hx hF rfl rfl rfl rfl ?_ | refine aT (v := .slice _ _ _) ho hb hx hF rfl rfl rfl rfl ?_ | refine aT (v := .bool _) ho hb hx hF rfl rfl rfl rfl ?_); clear ho hx hb hF; intro ww hF; simp only [nf] at hF)
   )
  refine bodyPost_ret (results2 Tryz.results36 (res_cell 1 hF rfl rfl rfl) (.tmp _)) rfl ⟨by rw [hv.out]; rfl, hF.below⟩
theorem ractive_walk :
  Calls Tryz.prog 11 #[.agg (stA b.nm b.key CA cl.length cc UA b.us.length uc RA rs.length rc), .int .i64 now, .int .i64 key] w (RecO (activeO rs now key) w) := by
 have hF := Fr.start w (kp_start hr)
 have ct := Lib.hid (fun W h => rtoken_walk b rs now key cl CA cc UA uc RA rc W h)
 have HV : Hid (activeO rs now key = match tokenO rs now key with
  | none => none
  | some r => if r.used then none else some r) := rfl
 generalize tokenO rs now key = o at ct HV
 clear hr
 cases o with
 | none =>
  have hv : Hid (activeO rs now key = none) := HV.out
  go_enter Tryz.func11, Tryz.ntmps11
  go_wp2_with (first
   | go_skip
   | (refine aA rfl rfl hF ?_; clear hF; intro gg ww hF; simp only [nf] at hF)
   | (refine aB rfl rfl hF rfl ?_; clear hF; intro gg ww hF; simp only [nf] at hF)
   | (refine iL (t := 3) hF rfl rfl fun ho hx hb => ?_; refine aC (v := .int _ _) ho hb hx hF rfl rfl ?_; clear ho hx hb)
   | (refine iL hF rfl rfl fun ho hx hb => ?_; (first | refine aL ho hb hx hF rfl rfl ?_ | refine aC (v := .slice _ _ _) ho hb hx hF rfl rfl ?_ | refine aC (v := .string _) ho hb hx hF rfl rfl ?_ | refine aC (v := .bool _) ho hb hx hF rfl rfl ?_); clear ho hx hb)
   | (refine iS hF rfl rfl fun ho hx hb => ?_; (first | refine aS ho hb hx hF rfl rfl rfl rfl ?_ | refine aT (v := .int _ _) ho hb hx hF rfl rfl rfl rfl ?_ | refine aT (v := .slice _ _ _) ho hb hx hF rfl rfl rfl rfl ?_ | refine aT (v := .bool _) ho hb hx hF rfl rfl rfl rfl ?_); clear ho hx hb hF; intro ww hF; simp only [nf] at hF)
   )
  refine (ct.out _ hF.data).mono ?_
  rintro _ w1 ⟨rfl, hbn⟩
  replace hF := hF.call hbn
  clear hbn
  go_wp2_with (first
   | go_skip
   | (refine aA rfl rfl hF ?_; clear hF; intro gg ww hF; simp only [nf] at hF)
   | (refine aB rfl rfl hF rfl ?_; clear hF; intro gg ww hF; simp only [nf] at hF)
   | (refine iL (t := 3) hF rfl rfl fun ho hx hb => ?_; refine aC (v := .int _ _) ho hb hx hF rfl rfl ?_; clear ho hx hb)
   | (refine iL hF rfl rfl fun ho hx hb => ?_; (first | refine aL ho hb hx hF rfl rfl ?_ | refine aC (v := .slice _ _ _) ho hb hx hF rfl rfl ?_ | refine aC (v := .string _) ho hb hx hF rfl rfl ?_ | refine aC (v := .bool _) ho hb hx hF rfl rfl ?_); clear ho hx hb)
   | (refine iS hF rfl rfl fun ho hx hb => ?_; (first | refine aS ho hb hx hF rfl rfl rfl rfl ?_ | refine aT (v := .int _ _) ho hb hx hF rfl rfl rfl rfl ?_ | refine aT (v := .slice _ _ _) ho hb hx hF rfl rfl rfl rfl ?_ | refine aT (v := .bool _) ho hb hx hF rfl rfl rfl rfl ?_); clear ho hx hb hF; intro ww hF; simp only [nf] at hF)
   )
  refine bodyPost_ret (results2 Tryz.results11 (res_cell 1 hF rfl rfl rfl) (.tmp _)) rfl ⟨by rw [hv.out]; rfl, hF.below⟩
 | some r =>
  obtain ⟨r0, r1, r2, u, r4, r5, r6, r7, q1, q2, q3, q4, q5, q6, q7⟩ := r
  cases u with
  | true =>
   have hv : Hid (activeO rs now key = none) := HV.out
   go_enter Tryz.func11, Tryz.ntmps11
   go_wp2_with (first
    | go_skip
    | (refine aA rfl rfl hF ?_; clear hF; intro gg ww hF; simp only [nf] at hF)
    | (refine aB rfl rfl hF rfl ?_; clear hF; intro gg ww hF; simp only [nf] at hF)
    | (refine iL (t := 3) hF rfl rfl fun ho hx hb => ?_; refine aC (v := .int _ _) ho hb hx hF rfl rfl ?_; clear ho hx hb)
    | (refine iL hF rfl rfl fun ho hx hb => ?_; (first | refine aL ho hb hx hF rfl rfl ?_ | refine aC (v := .slice _ _ _) ho hb hx hF rfl rfl ?_ | refine aC (v := .string _) ho hb hx hF rfl rfl ?_ | refine aC (v := .bool _) ho hb hx hF rfl rfl ?_); clear ho hx hb)
    | (refine iS hF rfl rfl fun ho hx hb => ?_; (first | refine aS ho hb hx hF rfl rfl rfl rfl ?_ | refine aT (v := .int _ _) ho hb hx hF rfl rfl rfl rfl ?_ | refine aT (v := .slice _ _ _) ho hb hx hF rfl rfl rfl rfl ?_ | refine aT (v := .bool _) ho hb hx hF rfl rfl rfl rfl ?_); clear ho hx hb hF; intro ww hF; simp only [nf] at hF)
    )
   refine (ct.out _ hF.data).mono ?_
   rintro _ w1 ⟨rfl, hbn⟩
   replace hF := hF.call hbn
   clear hbn
   go_wp2_with (first
    | go_skip
    | (refine aA rfl rfl hF ?_; clear hF; intro gg ww hF; simp only [nf] at hF)
    | (refine aB rfl rfl hF rfl ?_; clear hF; intro gg ww hF; simp only [nf] at hF)
    | (refine iL (t := 3) hF rfl rfl fun ho hx hb => ?_; refine aC (v := .int _ _) ho hb hx hF rfl rfl ?_; clear ho hx hb)
    | (refine iL hF rfl rfl fun ho hx hb => ?_; (first | refine aL ho hb hx hF rfl rfl ?_ | refine aC (v := .slice _ _ _) ho hb hx hF rfl rfl ?_ | refine aC (v := .string _) ho hb hx hF rfl rfl ?_ | refine aC (v := .bool _) ho hb hx hF rfl rfl ?_); clear ho hx hb)
    | (refine iS hF rfl rfl fun ho hx hb => ?_; (first | refine aS ho hb hx hF rfl rfl rfl rfl ?_ | refine aT (v := .int _ _) ho hb hx hF rfl rfl rfl rfl ?_ | refine aT (v := .slice _ _ _) ho hb hx hF rfl rfl rfl rfl ?_ | refine aT (v := .bool _) ho hb hx hF rfl rfl rfl rfl ?_); clear ho hx hb hF; intro ww hF; simp only [nf] at hF)
    )
   refine bodyPost_ret (results2 Tryz.results11 (res_cell 1 hF rfl rfl rfl) (.tmp _)) rfl ⟨by rw [hv.out]; rfl, hF.below⟩
  | false =>
   have hv : Hid (activeO rs now key = some ⟨r0, r1, r2, false, r4, r5, r6, r7, q1, q2, q3, q4, q5, q6, q7⟩) := HV.out
   go_enter Tryz.func11, Tryz.ntmps11
   go_wp2_with (first
    | go_skip
    | (refine aA rfl rfl hF ?_; clear hF; intro gg ww hF; simp only [nf] at hF)
    | (refine aB rfl rfl hF rfl ?_; clear hF; intro gg ww hF; simp only [nf] at hF)
    | (refine iL (t := 3) hF rfl rfl fun ho hx hb => ?_; refine aC (v := .int _ _) ho hb hx hF rfl rfl ?_; clear ho hx hb)
    | (refine iL hF rfl rfl fun ho hx hb => ?_; (first | refine aL ho hb hx hF rfl rfl ?_ | refine aC (v := .slice _ _ _) ho hb hx hF rfl rfl ?_ | refine aC (v := .string _) ho hb hx hF rfl rfl ?_ | refine aC (v := .bool _) ho hb hx hF rfl rfl ?_); clear ho hx hb)
    | (refine iS hF rfl rfl fun ho hx hb => ?_; (first | refine aS ho hb hx hF rfl rfl rfl rfl ?_ | refine aT (v := .int _ _) ho hb hx hF rfl rfl rfl rfl ?_ | refine aT (v := .slice _ _ _) ho hb hx hF rfl rfl rfl rfl ?_ | refine aT (v := .bool _) ho hb hx hF rfl rfl rfl rfl ?_); clear ho hx hb hF; intro ww hF; simp only [nf] at hF)
    )
   refine (ct.out _ hF.data).mono ?_
   rintro _ w1 ⟨rfl, hbn⟩
   replace hF := hF.call hbn
   clear hbn
   go_wp2_with (first
    | go_skip
    | (refine aA rfl rfl hF ?_; clear hF; intro gg ww hF; simp only [nf] at hF)
    | (refine aB rfl rfl hF rfl ?_; clear hF; intro gg ww hF; simp only [nf] at hF)
    | (refine iL (t := 3) hF rfl rfl fun ho hx hb => ?_; refine aC (v := .int _ _) ho hb hx hF rfl rfl ?_; clear ho hx hb)
    | (refine iL hF rfl rfl fun ho hx hb => ?_; (first | refine aL ho hb hx hF rfl rfl ?_ | refine aC (v := .slice _ _ _) ho hb hx hF rfl rfl ?_ | refine aC (v := .string _) ho hb hx hF rfl rfl ?_ | refine aC (v := .bool _) ho hb hx hF rfl rfl ?_); clear ho hx hb)
    | (refine iS hF rfl rfl fun ho hx hb => ?_; (first | refine aS ho hb hx hF rfl rfl rfl rfl ?_ | refine aT (v := .int _ _) ho hb hx hF rfl rfl rfl rfl ?_ | refine aT (v := .slice _ _ _) ho hb hx hF rfl rfl rfl rfl ?_ | refine aT (v := .bool _) ho hb hx hF rfl rfl rfl rfl ?_); clear ho hx hb hF; intro ww hF; simp only [nf] at hF)
    )
   refine bodyPost_ret (results2 Tryz.results11 (res_cell 1 hF rfl rfl rfl) (.tmp _)) rfl ⟨by rw [hv.out]; rfl, hF.below⟩
end
end Go.Proofs.YtnhjgocdepbajaaGreat
