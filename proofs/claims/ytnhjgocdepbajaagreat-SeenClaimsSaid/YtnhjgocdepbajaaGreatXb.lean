/- countersignref21.Enter. Conditions: numbers and rows of sizes that a machine bears. Printed by wip/tools/genXb.py. -/
import Derived.Test.YtnhjgocdepbajaaGreatXa
set_option linter.unusedVariables false
set_option linter.unusedSimpArgs false
set_option maxRecDepth 20000
namespace Go.Proofs.YtnhjgocdepbajaaGreat
open Go.RowKit S19 C17 R
theorem cfind_str (s : ByteArray) (cs : List Cl) (A : Option Addr) (c : Nat) (w : World) (hr : ClsAt w A c cs) (hm : cs.length ≤ 1000000) :
  Calls Tryz.prog 96 #[.slice A cs.length c, .string s] w fun e w' => e = .returned (findV s.data.toList cs) ∧ w = w' := by
 have := C17.rfind_walk s.data.toList cs A c w hr hm
 rwa [← str_is] at this
def EntR (b : Bs) (cl : List Cl) (CA : Option Addr) (cc : Nat) (UA : Option Addr) (uc : Nat) (RA : Option Addr) (rc : Nat) (rs : List Rc) (x : List Rc × Sr × Int × Int × Int) (w : World) (e : Ending) (w' : World) : Prop :=
 ∃ v, e = .returned (.tuple #[v, .agg x.2.1.arr, .int .i64 x.2.2.1, .int .i64 x.2.2.2.1, .int .i64 x.2.2.2.2]) ∧ StR b cl CA cc UA uc RA rc rs x.1 w w' v
theorem sess_arr (k t : Int) : (recOf 2 k t false 0 0 0 0 wt0).arr = #[.int .i64 2, .int .i64 k, .int .i64 t, .bool false, .int .i64 0, .int .i64 0, .int .i64 0, .int .i64 0, .string ⟨#[]⟩, .string ⟨#[]⟩, .string ⟨#[]⟩, .string ⟨#[]⟩, .string ⟨#[]⟩, .string ⟨#[]⟩, .string ⟨#[]⟩] := rfl
theorem door_arr (k t n sess : Int) (r : Rc) : (recOf 3 k t false n 0 sess 0 (wantOf r)).arr = #[.int .i64 3, .int .i64 k, .int .i64 t, .bool false, .int .i64 n, .int .i64 0, .int .i64 sess, .int .i64 0, .string r.s1, .string r.s2, .string r.s3, .string r.s4, .string r.s5, .string r.s6, .string r.s7] := rfl
set_option maxHeartbeats 16000000 in
theorem renter_walk (b : Bs) (rs : List Rc) (s : Sr) (sess : Int) (id : ByteArray) (key : Int) (cl : List Cl) (CA : Option Addr) (cc : Nat) (UA : Option Addr) (uc : Nat) (RA : Option Addr) (rc : Nat) (w : World) (hst : StH b rs w cl CA cc UA uc RA rc) (hm : rs.length ≤ 700000)
  (hn : 0 ≤ s.n ∧ s.n ≤ 1400000000) (ht : 0 ≤ s.now ∧ s.now ≤ 1000000000) (hcl : b.cls.length ≤ 1000000) :
  Calls Tryz.prog 66 #[.agg (stA b.nm b.key CA cl.length cc UA b.us.length uc RA rs.length rc), .agg s.arr, .int .i64 sess, .string id, .int .i64 key] w
   (EntR b cl CA cc UA uc RA rc rs (enterP b.cls rs s sess id.data.toList key) w) := by
 have hF := Fr.start w (kp_start hst.rs)
 have HR := Lib.hid hst.rs
 have hlen := hst.len
 have cf := Lib.hid (fun W (hW : Below w.heap.size w W) => cfind_str id cl CA cc W (hst.cls.below hW) (by omega))
 have hfp : findP id.data.toList b.cls = findI id.data.toList cl := by rw [← hst.pl]; exact findP_of _ _
 have ch := Lib.hid (fun W h => S19.rfind_walk rs RA rc s.now 1 key W h)
 have ck := Lib.hid (fun W h => S19.rtake_walk rs RA rc s.now 1 key W h)
 have cn := Lib.hid (fun W => rnonce_walk s W (by omega))
 have hlt := takeL_len rs s.now 1 key
 have HT := Lib.hid ht
 have HN := Lib.hid hn
 clear hst hlen ht hcl
 unfold findV at cf
 cases hfi : findI id.data.toList cl with
 | none =>
  have hv : Hid (enterP b.cls rs s sess id.data.toList key = (rs, s, 0, 0, 9)) := by show _ = _; rw [enterP, hfp, hfi]
  rw [hfi] at cf
  clear hfi hfp
  go_enter Tryz.func66, Tryz.ntmps66
  go_wp2_with (first
   | go_skip
   | (refine aA rfl rfl hF ?_; clear hF; intro gg ww hF; simp only [nf] at hF)
   | (refine aB rfl rfl hF rfl ?_; clear hF; intro gg ww hF; simp only [nf] at hF)
   | (refine iL (t := 3) hF rfl rfl fun ho hx hb => ?_; refine aC (v := .int _ _) ho hb hx hF rfl rfl ?_; clear ho hx hb)
   | (refine iL hF rfl rfl fun ho hx hb => ?_; (first | refine aL ho hb hx hF rfl rfl ?_ | refine aC (v := .slice _ _ _) ho hb hx hF rfl rfl ?_ | refine aC (v := .string _) ho hb hx hF rfl rfl ?_ | refine aC (v := .bool _) ho hb hx hF rfl rfl ?_); clear ho hx hb)
   | (refine iS hF rfl rfl fun ho hx hb => ?_; (first | refine aS ho hb hx hF rfl rfl rfl rfl ?_ | refine aT (v := .int _ _) ho hb hx hF rfl rfl rfl rfl ?_ | refine aT (v := .slice _ _ _) ho hb hx hF rfl rfl rfl rfl ?_ | refine aT (v := .bool _) ho hb hx hF rfl rfl rfl rfl ?_); clear ho hx hb hF; intro ww hF; simp only [nf] at hF)
   )
  refine (cf.out _ hF.below).mono ?_
  rintro _ w1 ⟨rfl, rfl⟩
  go_wp2_with (first
   | go_skip
   | (refine aA rfl rfl hF ?_; clear hF; intro gg ww hF; simp only [nf] at hF)
   | (refine aB rfl rfl hF rfl ?_; clear hF; intro gg ww hF; simp only [nf] at hF)
   | (refine iL (t := 3) hF rfl rfl fun ho hx hb => ?_; refine aC (v := .int _ _) ho hb hx hF rfl rfl ?_; clear ho hx hb)
   | (refine iL hF rfl rfl fun ho hx hb => ?_; (first | refine aL ho hb hx hF rfl rfl ?_ | refine aC (v := .slice _ _ _) ho hb hx hF rfl rfl ?_ | refine aC (v := .string _) ho hb hx hF rfl rfl ?_ | refine aC (v := .bool _) ho hb hx hF rfl rfl ?_); clear ho hx hb)
   | (refine iS hF rfl rfl fun ho hx hb => ?_; (first | refine aS ho hb hx hF rfl rfl rfl rfl ?_ | refine aT (v := .int _ _) ho hb hx hF rfl rfl rfl rfl ?_ | refine aT (v := .slice _ _ _) ho hb hx hF rfl rfl rfl rfl ?_ | refine aT (v := .bool _) ho hb hx hF rfl rfl rfl rfl ?_); clear ho hx hb hF; intro ww hF; simp only [nf] at hF)
   )
  refine rgw [] [_, _] hF (.cons_cons _ (.cons_cons _ (.cons _ (.cons _ .slnil)))) fun hF => ?_
  refine tkb 0 0 [] rfl rfl rfl rfl rfl ?_
  try simp only [nrm, Act.put]
  refine tkb 1 1 [] rfl rfl rfl rfl rfl ?_
  try simp only [nrm, Act.put]
  refine stw 2 2 hF rfl rfl rfl rfl rfl rfl rfl rfl ?_
  clear hF; intro ww hF; simp only [nf] at hF
  try simp only [nrm, Act.put]
  refine stw 3 3 hF rfl rfl rfl rfl rfl rfl rfl rfl ?_
  clear hF; intro ww hF; simp only [nf] at hF
  try simp only [nrm, Act.put]
  refine tkf 4 rfl ?_
  try simp only [nrm, Act.put]
  refine tkf 5 rfl ?_
  try simp only [nrm, Act.put]
  refine tkf 6 rfl ?_
  try simp only [nrm, Act.put]
  refine dnw ?_
  go_wp2_with (first
   | go_skip
   | (refine aA rfl rfl hF ?_; clear hF; intro gg ww hF; simp only [nf] at hF)
   | (refine aB rfl rfl hF rfl ?_; clear hF; intro gg ww hF; simp only [nf] at hF)
   | (refine iL (t := 3) hF rfl rfl fun ho hx hb => ?_; refine aC (v := .int _ _) ho hb hx hF rfl rfl ?_; clear ho hx hb)
   | (refine iL hF rfl rfl fun ho hx hb => ?_; (first | refine aL ho hb hx hF rfl rfl ?_ | refine aC (v := .slice _ _ _) ho hb hx hF rfl rfl ?_ | refine aC (v := .string _) ho hb hx hF rfl rfl ?_ | refine aC (v := .bool _) ho hb hx hF rfl rfl ?_); clear ho hx hb)
   | (refine iS hF rfl rfl fun ho hx hb => ?_; (first | refine aS ho hb hx hF rfl rfl rfl rfl ?_ | refine aT (v := .int _ _) ho hb hx hF rfl rfl rfl rfl ?_ | refine aT (v := .slice _ _ _) ho hb hx hF rfl rfl rfl rfl ?_ | refine aT (v := .bool _) ho hb hx hF rfl rfl rfl rfl ?_); clear ho hx hb hF; intro ww hF; simp only [nf] at hF)
   )
  refine bodyPost_ret (results5 Tryz.results66 (res_cell 2 hF rfl rfl rfl) (res_cell 3 hF rfl rfl rfl) (.tmp _) (.tmp _) (.tmp _)) rfl ⟨_, by rw [hv.out]; rfl, ?_⟩
  rw [hv.out]
  exact StR.same (b := b) (cl := cl) HR.out hF.below
 | some k =>
  rw [hfi] at cf hfp
  clear hfi
  cases hfo : findO rs s.now 1 key with
  | none =>
   have hv : Hid (enterP b.cls rs s sess id.data.toList key = (rs, s, 0, 0, 10)) := by show _ = _; rw [enterP, hfp]; simp only [hfo]
   rw [hfo] at ch
   clear hfo hfp
   go_enter Tryz.func66, Tryz.ntmps66
   go_wp2_with (first
    | go_skip
    | (refine aA rfl rfl hF ?_; clear hF; intro gg ww hF; simp only [nf] at hF)
    | (refine aB rfl rfl hF rfl ?_; clear hF; intro gg ww hF; simp only [nf] at hF)
    | (refine iL (t := 3) hF rfl rfl fun ho hx hb => ?_; refine aC (v := .int _ _) ho hb hx hF rfl rfl ?_; clear ho hx hb)
    | (refine iL hF rfl rfl fun ho hx hb => ?_; (first | refine aL ho hb hx hF rfl rfl ?_ | refine aC (v := .slice _ _ _) ho hb hx hF rfl rfl ?_ | refine aC (v := .string _) ho hb hx hF rfl rfl ?_ | refine aC (v := .bool _) ho hb hx hF rfl rfl ?_); clear ho hx hb)
    | (refine iS hF rfl rfl fun ho hx hb => ?_; (first | refine aS ho hb hx hF rfl rfl rfl rfl ?_ | refine aT (v := .int _ _) ho hb hx hF rfl rfl rfl rfl ?_ | refine aT (v := .slice _ _ _) ho hb hx hF rfl rfl rfl rfl ?_ | refine aT (v := .bool _) ho hb hx hF rfl rfl rfl rfl ?_); clear ho hx hb hF; intro ww hF; simp only [nf] at hF)
    )
   refine (cf.out _ hF.below).mono ?_
   rintro _ w1 ⟨rfl, rfl⟩
   go_wp2_with (first
    | go_skip
    | (refine aA rfl rfl hF ?_; clear hF; intro gg ww hF; simp only [nf] at hF)
    | (refine aB rfl rfl hF rfl ?_; clear hF; intro gg ww hF; simp only [nf] at hF)
    | (refine iL (t := 3) hF rfl rfl fun ho hx hb => ?_; refine aC (v := .int _ _) ho hb hx hF rfl rfl ?_; clear ho hx hb)
    | (refine iL hF rfl rfl fun ho hx hb => ?_; (first | refine aL ho hb hx hF rfl rfl ?_ | refine aC (v := .slice _ _ _) ho hb hx hF rfl rfl ?_ | refine aC (v := .string _) ho hb hx hF rfl rfl ?_ | refine aC (v := .bool _) ho hb hx hF rfl rfl ?_); clear ho hx hb)
    | (refine iS hF rfl rfl fun ho hx hb => ?_; (first | refine aS ho hb hx hF rfl rfl rfl rfl ?_ | refine aT (v := .int _ _) ho hb hx hF rfl rfl rfl rfl ?_ | refine aT (v := .slice _ _ _) ho hb hx hF rfl rfl rfl rfl ?_ | refine aT (v := .bool _) ho hb hx hF rfl rfl rfl rfl ?_); clear ho hx hb hF; intro ww hF; simp only [nf] at hF)
    )
   refine (ch.out _ hF.data).mono ?_
   rintro _ w1 ⟨rfl, hbn⟩
   replace hF := hF.call hbn
   clear hbn
   go_wp2_with (first
    | go_skip
    | (refine aA rfl rfl hF ?_; clear hF; intro gg ww hF; simp only [nf] at hF)
    | (refine aB rfl rfl hF rfl ?_; clear hF; intro gg ww hF; simp only [nf] at hF)
    | (refine iL (t := 3) hF rfl rfl fun ho hx hb => ?_; refine aC (v := .int _ _) ho hb hx hF rfl rfl ?_; clear ho hx hb)
    | (refine iL hF rfl rfl fun ho hx hb => ?_; (first | refine aL ho hb hx hF rfl rfl ?_ | refine aC (v := .slice _ _ _) ho hb hx hF rfl rfl ?_ | refine aC (v := .string _) ho hb hx hF rfl rfl ?_ | refine aC (v := .bool _) ho hb hx hF rfl rfl ?_); clear ho hx hb)
    | (refine iS hF rfl rfl fun ho hx hb => ?_; (first | refine aS ho hb hx hF rfl rfl rfl rfl ?_ | refine aT (v := .int _ _) ho hb hx hF rfl rfl rfl rfl ?_ | refine aT (v := .slice _ _ _) ho hb hx hF rfl rfl rfl rfl ?_ | refine aT (v := .bool _) ho hb hx hF rfl rfl rfl rfl ?_); clear ho hx hb hF; intro ww hF; simp only [nf] at hF)
    )
   refine rgw [] [_, _] hF (.cons_cons _ (.cons_cons _ (.cons _ (.cons _ (.cons _ .slnil))))) fun hF => ?_
   refine tkb 0 0 [] rfl rfl rfl rfl rfl ?_
   try simp only [nrm, Act.put]
   refine tkb 1 1 [] rfl rfl rfl rfl rfl ?_
   try simp only [nrm, Act.put]
   refine stw 2 2 hF rfl rfl rfl rfl rfl rfl rfl rfl ?_
   clear hF; intro ww hF; simp only [nf] at hF
   try simp only [nrm, Act.put]
   refine stw 3 3 hF rfl rfl rfl rfl rfl rfl rfl rfl ?_
   clear hF; intro ww hF; simp only [nf] at hF
   try simp only [nrm, Act.put]
   refine tkf 4 rfl ?_
   try simp only [nrm, Act.put]
   refine tkf 5 rfl ?_
   try simp only [nrm, Act.put]
   refine tkf 6 rfl ?_
   try simp only [nrm, Act.put]
   refine dnw ?_
   go_wp2_with (first
    | go_skip
    | (refine aA rfl rfl hF ?_; clear hF; intro gg ww hF; simp only [nf] at hF)
    | (refine aB rfl rfl hF rfl ?_; clear hF; intro gg ww hF; simp only [nf] at hF)
    | (refine iL (t := 3) hF rfl rfl fun ho hx hb => ?_; refine aC (v := .int _ _) ho hb hx hF rfl rfl ?_; clear ho hx hb)
    | (refine iL hF rfl rfl fun ho hx hb => ?_; (first | refine aL ho hb hx hF rfl rfl ?_ | refine aC (v := .slice _ _ _) ho hb hx hF rfl rfl ?_ | refine aC (v := .string _) ho hb hx hF rfl rfl ?_ | refine aC (v := .bool _) ho hb hx hF rfl rfl ?_); clear ho hx hb)
    | (refine iS hF rfl rfl fun ho hx hb => ?_; (first | refine aS ho hb hx hF rfl rfl rfl rfl ?_ | refine aT (v := .int _ _) ho hb hx hF rfl rfl rfl rfl ?_ | refine aT (v := .slice _ _ _) ho hb hx hF rfl rfl rfl rfl ?_ | refine aT (v := .bool _) ho hb hx hF rfl rfl rfl rfl ?_); clear ho hx hb hF; intro ww hF; simp only [nf] at hF)
    )
   refine bodyPost_ret (results5 Tryz.results66 (res_cell 2 hF rfl rfl rfl) (res_cell 3 hF rfl rfl rfl) (.tmp _) (.tmp _) (.tmp _)) rfl ⟨_, by rw [hv.out]; rfl, ?_⟩
   rw [hv.out]
   exact StR.same (b := b) (cl := cl) HR.out hF.below
  | some r =>
   rw [hfo] at ch ck
   by_cases hc : r.client = (k : Int) + 1
   ·
    have h1 : (r.client == (k : Int) + 1) = true := by simpa using hc
    have h2 : (r.client != (k : Int) + 1) = false := by simpa using hc
    have HV : Hid (enterP b.cls rs s sess id.data.toList key = if (findO (takeL rs s.now 1 key) s.now 2 sess).isSome then enter2 rs s (takeL rs s.now 1 key) s sess ((k : Int) + 1) (wantOf r)
      else if drawB s = false ∨ roomI (takeL rs s.now 1 key) s.now 2 = 0 then (rs, s, 0, 0, 16)
      else enter2 rs s (putL (takeL rs s.now 1 key) s.now (recOf 2 s.n (untilI s.now 900) false 0 0 0 0 wt0)) (drawS s) s.n ((k : Int) + 1) (wantOf r)) := by
     show _ = _
     rw [enterP, hfp]
     simp only [hfo, hc, ne_eq, not_true_eq_false, if_false]
    generalize takeL rs s.now 1 key = l at ck hlt HV
    have cs := Lib.hid (fun W A c h => S19.rfind_walk l A c s.now 2 sess W h)
    have cl3 := Lib.hid (fun W => rlife_walk 3 W)
    have cu3 := Lib.hid (fun W => runtil_walk s.now (lifeI 3) W HT.out.1 (by have := HT.out.2; omega) (by decide))
    rw [show lifeI 3 = 120 from rfl] at cl3 cu3
    clear hfo hfp hc
    generalize findO l s.now 2 sess = os at cs HV
    cases os with
   | some a =>
    replace HV : Hid (enterP b.cls rs s sess id.data.toList key = enter2 rs s l s sess ((k : Int) + 1) (wantOf r)) := HV.out
    have cd := Lib.hid (fun W => rnonce_walk s W (by have := HN.out; omega))
    have cr3 := Lib.hid (fun W A c h => rroom_walk l A c s.now 3 W h)
    by_cases hbad : drawB s = false ∨ roomI l s.now 3 = 0
    ·
     have hv : Hid (enterP b.cls rs s sess id.data.toList key = (rs, s, 0, 0, 16)) := by show _ = _; rw [HV.out, enter2, if_pos hbad]
     have hcase : drawB s = false ∨ (drawB s = true ∧ roomI l s.now 3 = 0) := by
      cases h1 : drawB s
      ·
       exact .inl rfl
      ·
       refine .inr ⟨rfl, ?_⟩
       rcases hbad with h | h
       ·
        rw [h1] at h; cases h
       ·
        exact h
     clear hbad HV
     rcases hcase with h3 | ⟨h3, h4⟩
     ·
      rw [h3] at cd
      clear h3
      go_enter Tryz.func66, Tryz.ntmps66
      go_wp2_with (first
       | go_skip
       | (refine aA rfl rfl hF ?_; clear hF; intro gg ww hF; simp only [nf] at hF)
       | (refine aB rfl rfl hF rfl ?_; clear hF; intro gg ww hF; simp only [nf] at hF)
       | (refine iL (t := 3) hF rfl rfl fun ho hx hb => ?_; refine aC (v := .int _ _) ho hb hx hF rfl rfl ?_; clear ho hx hb)
       | (refine iL hF rfl rfl fun ho hx hb => ?_; (first | refine aL ho hb hx hF rfl rfl ?_ | refine aC (v := .slice _ _ _) ho hb hx hF rfl rfl ?_ | refine aC (v := .string _) ho hb hx hF rfl rfl ?_ | refine aC (v := .bool _) ho hb hx hF rfl rfl ?_); clear ho hx hb)
       | (refine iS hF rfl rfl fun ho hx hb => ?_; (first | refine aS ho hb hx hF rfl rfl rfl rfl ?_ | refine aT (v := .int _ _) ho hb hx hF rfl rfl rfl rfl ?_ | refine aT (v := .slice _ _ _) ho hb hx hF rfl rfl rfl rfl ?_ | refine aT (v := .bool _) ho hb hx hF rfl rfl rfl rfl ?_); clear ho hx hb hF; intro ww hF; simp only [nf] at hF)
       )
      refine (cf.out _ hF.below).mono ?_
      rintro _ w1 ⟨rfl, rfl⟩
      go_wp2_with (first
       | go_skip
       | (refine aA rfl rfl hF ?_; clear hF; intro gg ww hF; simp only [nf] at hF)
       | (refine aB rfl rfl hF rfl ?_; clear hF; intro gg ww hF; simp only [nf] at hF)
       | (refine iL (t := 3) hF rfl rfl fun ho hx hb => ?_; refine aC (v := .int _ _) ho hb hx hF rfl rfl ?_; clear ho hx hb)
       | (refine iL hF rfl rfl fun ho hx hb => ?_; (first | refine aL ho hb hx hF rfl rfl ?_ | refine aC (v := .slice _ _ _) ho hb hx hF rfl rfl ?_ | refine aC (v := .string _) ho hb hx hF rfl rfl ?_ | refine aC (v := .bool _) ho hb hx hF rfl rfl ?_); clear ho hx hb)
       | (refine iS hF rfl rfl fun ho hx hb => ?_; (first | refine aS ho hb hx hF rfl rfl rfl rfl ?_ | refine aT (v := .int _ _) ho hb hx hF rfl rfl rfl rfl ?_ | refine aT (v := .slice _ _ _) ho hb hx hF rfl rfl rfl rfl ?_ | refine aT (v := .bool _) ho hb hx hF rfl rfl rfl rfl ?_); clear ho hx hb hF; intro ww hF; simp only [nf] at hF)
       )
      refine (ch.out _ hF.data).mono ?_
      rintro _ w1 ⟨rfl, hbn⟩
      replace hF := hF.call hbn
      clear hbn
      go_wp2_with (first
       | go_skip
       | (refine aA rfl rfl hF ?_; clear hF; intro gg ww hF; simp only [nf] at hF)
       | (refine aB rfl rfl hF rfl ?_; clear hF; intro gg ww hF; simp only [nf] at hF)
       | (refine iL (t := 3) hF rfl rfl fun ho hx hb => ?_; refine aC (v := .int _ _) ho hb hx hF rfl rfl ?_; clear ho hx hb)
       | (refine iL hF rfl rfl fun ho hx hb => ?_; (first | refine aL ho hb hx hF rfl rfl ?_ | refine aC (v := .slice _ _ _) ho hb hx hF rfl rfl ?_ | refine aC (v := .string _) ho hb hx hF rfl rfl ?_ | refine aC (v := .bool _) ho hb hx hF rfl rfl ?_); clear ho hx hb)
       | (refine iS hF rfl rfl fun ho hx hb => ?_; (first | refine aS ho hb hx hF rfl rfl rfl rfl ?_ | refine aT (v := .int _ _) ho hb hx hF rfl rfl rfl rfl ?_ | refine aT (v := .slice _ _ _) ho hb hx hF rfl rfl rfl rfl ?_ | refine aT (v := .bool _) ho hb hx hF rfl rfl rfl rfl ?_); clear ho hx hb hF; intro ww hF; simp only [nf] at hF)
       )
      refine (ck.out _ hF.data).mono ?_
      rintro _ w2 ⟨A2, c2, rfl, hr2, hbn, hn2⟩
      have g2 := hF.below.size
      replace hF := hF.rows hbn hr2 hn2 (fun _ h => h)
      clear hbn hr2
      go_wp2_with (first
       | go_skip
       | (refine aA rfl rfl hF ?_; clear hF; intro gg ww hF; simp only [nf] at hF)
       | (refine aB rfl rfl hF rfl ?_; clear hF; intro gg ww hF; simp only [nf] at hF)
       | (refine iL (t := 3) hF rfl rfl fun ho hx hb => ?_; refine aC (v := .int _ _) ho hb hx hF rfl rfl ?_; clear ho hx hb)
       | (refine iL hF rfl rfl fun ho hx hb => ?_; (first | refine aL ho hb hx hF rfl rfl ?_ | refine aC (v := .slice _ _ _) ho hb hx hF rfl rfl ?_ | refine aC (v := .string _) ho hb hx hF rfl rfl ?_ | refine aC (v := .bool _) ho hb hx hF rfl rfl ?_); clear ho hx hb)
       | (refine iS hF rfl rfl fun ho hx hb => ?_; (first | refine aS ho hb hx hF rfl rfl rfl rfl ?_ | refine aT (v := .int _ _) ho hb hx hF rfl rfl rfl rfl ?_ | refine aT (v := .slice _ _ _) ho hb hx hF rfl rfl rfl rfl ?_ | refine aT (v := .bool _) ho hb hx hF rfl rfl rfl rfl ?_); clear ho hx hb hF; intro ww hF; simp only [nf] at hF)
       )
      refine (cs.out _ A2 c2 hF.data.2).mono ?_
      rintro _ w3 ⟨rfl, hbn⟩
      replace hF := hF.call hbn
      clear hbn
      go_wp2_with (first
       | go_skip
       | (refine aA rfl rfl hF ?_; clear hF; intro gg ww hF; simp only [nf] at hF)
       | (refine aB rfl rfl hF rfl ?_; clear hF; intro gg ww hF; simp only [nf] at hF)
       | (refine iL (t := 3) hF rfl rfl fun ho hx hb => ?_; refine aC (v := .int _ _) ho hb hx hF rfl rfl ?_; clear ho hx hb)
       | (refine iL hF rfl rfl fun ho hx hb => ?_; (first | refine aL ho hb hx hF rfl rfl ?_ | refine aC (v := .slice _ _ _) ho hb hx hF rfl rfl ?_ | refine aC (v := .string _) ho hb hx hF rfl rfl ?_ | refine aC (v := .bool _) ho hb hx hF rfl rfl ?_); clear ho hx hb)
       | (refine iS hF rfl rfl fun ho hx hb => ?_; (first | refine aS ho hb hx hF rfl rfl rfl rfl ?_ | refine aT (v := .int _ _) ho hb hx hF rfl rfl rfl rfl ?_ | refine aT (v := .slice _ _ _) ho hb hx hF rfl rfl rfl rfl ?_ | refine aT (v := .bool _) ho hb hx hF rfl rfl rfl rfl ?_); clear ho hx hb hF; intro ww hF; simp only [nf] at hF)
       )
      refine (cd.out _).mono ?_
      rintro _ w4 ⟨rfl, hbn⟩
      replace hF := hF.call hbn
      clear hbn
      go_wp2_with (first
       | go_skip
       | (refine aA rfl rfl hF ?_; clear hF; intro gg ww hF; simp only [nf] at hF)
       | (refine aB rfl rfl hF rfl ?_; clear hF; intro gg ww hF; simp only [nf] at hF)
       | (refine iL (t := 3) hF rfl rfl fun ho hx hb => ?_; refine aC (v := .int _ _) ho hb hx hF rfl rfl ?_; clear ho hx hb)
       | (refine iL hF rfl rfl fun ho hx hb => ?_; (first | refine aL ho hb hx hF rfl rfl ?_ | refine aC (v := .slice _ _ _) ho hb hx hF rfl rfl ?_ | refine aC (v := .string _) ho hb hx hF rfl rfl ?_ | refine aC (v := .bool _) ho hb hx hF rfl rfl ?_); clear ho hx hb)
       | (refine iS hF rfl rfl fun ho hx hb => ?_; (first | refine aS ho hb hx hF rfl rfl rfl rfl ?_ | refine aT (v := .int _ _) ho hb hx hF rfl rfl rfl rfl ?_ | refine aT (v := .slice _ _ _) ho hb hx hF rfl rfl rfl rfl ?_ | refine aT (v := .bool _) ho hb hx hF rfl rfl rfl rfl ?_); clear ho hx hb hF; intro ww hF; simp only [nf] at hF)
       )
      refine rgw [] [_, _] hF (.cons_cons _ (.cons_cons _ (.cons _ (.cons _ (.cons _ (.cons _ (.cons _ (.cons _ .slnil)))))))) fun hF => ?_
      refine tkb 0 0 [] rfl rfl rfl rfl rfl ?_
      try simp only [nrm, Act.put]
      refine tkb 1 1 [] rfl rfl rfl rfl rfl ?_
      try simp only [nrm, Act.put]
      refine stw 2 2 hF rfl rfl rfl rfl rfl rfl rfl rfl ?_
      clear hF; intro ww hF; simp only [nf] at hF
      try simp only [nrm, Act.put]
      refine stw 3 3 hF rfl rfl rfl rfl rfl rfl rfl rfl ?_
      clear hF; intro ww hF; simp only [nf] at hF
      try simp only [nrm, Act.put]
      refine tkf 4 rfl ?_
      try simp only [nrm, Act.put]
      refine tkf 5 rfl ?_
      try simp only [nrm, Act.put]
      refine tkf 6 rfl ?_
      try simp only [nrm, Act.put]
      refine dnw ?_
      go_wp2_with (first
       | go_skip
       | (refine aA rfl rfl hF ?_; clear hF; intro gg ww hF; simp only [nf] at hF)
       | (refine aB rfl rfl hF rfl ?_; clear hF; intro gg ww hF; simp only [nf] at hF)
       | (refine iL (t := 3) hF rfl rfl fun ho hx hb => ?_; refine aC (v := .int _ _) ho hb hx hF rfl rfl ?_; clear ho hx hb)
       | (refine iL hF rfl rfl fun ho hx hb => ?_; (first | refine aL ho hb hx hF rfl rfl ?_ | refine aC (v := .slice _ _ _) ho hb hx hF rfl rfl ?_ | refine aC (v := .string _) ho hb hx hF rfl rfl ?_ | refine aC (v := .bool _) ho hb hx hF rfl rfl ?_); clear ho hx hb)
       | (refine iS hF rfl rfl fun ho hx hb => ?_; (first | refine aS ho hb hx hF rfl rfl rfl rfl ?_ | refine aT (v := .int _ _) ho hb hx hF rfl rfl rfl rfl ?_ | refine aT (v := .slice _ _ _) ho hb hx hF rfl rfl rfl rfl ?_ | refine aT (v := .bool _) ho hb hx hF rfl rfl rfl rfl ?_); clear ho hx hb hF; intro ww hF; simp only [nf] at hF)
       )
      refine bodyPost_ret (results5 Tryz.results66 (res_cell 2 hF rfl rfl rfl) (res_cell 3 hF rfl rfl rfl) (.tmp _) (.tmp _) (.tmp _)) rfl ⟨_, by rw [hv.out]; rfl, ?_⟩
      rw [hv.out]
      exact StR.same (b := b) (cl := cl) HR.out hF.below
     ·
      rw [h3] at cd
      rw [h4] at cr3
      clear h3 h4
      go_enter Tryz.func66, Tryz.ntmps66
      go_wp2_with (first
       | go_skip
       | (refine aA rfl rfl hF ?_; clear hF; intro gg ww hF; simp only [nf] at hF)
       | (refine aB rfl rfl hF rfl ?_; clear hF; intro gg ww hF; simp only [nf] at hF)
       | (refine iL (t := 3) hF rfl rfl fun ho hx hb => ?_; refine aC (v := .int _ _) ho hb hx hF rfl rfl ?_; clear ho hx hb)
       | (refine iL hF rfl rfl fun ho hx hb => ?_; (first | refine aL ho hb hx hF rfl rfl ?_ | refine aC (v := .slice _ _ _) ho hb hx hF rfl rfl ?_ | refine aC (v := .string _) ho hb hx hF rfl rfl ?_ | refine aC (v := .bool _) ho hb hx hF rfl rfl ?_); clear ho hx hb)
       | (refine iS hF rfl rfl fun ho hx hb => ?_; (first | refine aS ho hb hx hF rfl rfl rfl rfl ?_ | refine aT (v := .int _ _) ho hb hx hF rfl rfl rfl rfl ?_ | refine aT (v := .slice _ _ _) ho hb hx hF rfl rfl rfl rfl ?_ | refine aT (v := .bool _) ho hb hx hF rfl rfl rfl rfl ?_); clear ho hx hb hF; intro ww hF; simp only [nf] at hF)
       )
      refine (cf.out _ hF.below).mono ?_
      rintro _ w1 ⟨rfl, rfl⟩
      go_wp2_with (first
       | go_skip
       | (refine aA rfl rfl hF ?_; clear hF; intro gg ww hF; simp only [nf] at hF)
       | (refine aB rfl rfl hF rfl ?_; clear hF; intro gg ww hF; simp only [nf] at hF)
       | (refine iL (t := 3) hF rfl rfl fun ho hx hb => ?_; refine aC (v := .int _ _) ho hb hx hF rfl rfl ?_; clear ho hx hb)
       | (refine iL hF rfl rfl fun ho hx hb => ?_; (first | refine aL ho hb hx hF rfl rfl ?_ | refine aC (v := .slice _ _ _) ho hb hx hF rfl rfl ?_ | refine aC (v := .string _) ho hb hx hF rfl rfl ?_ | refine aC (v := .bool _) ho hb hx hF rfl rfl ?_); clear ho hx hb)
       | (refine iS hF rfl rfl fun ho hx hb => ?_; (first | refine aS ho hb hx hF rfl rfl rfl rfl ?_ | refine aT (v := .int _ _) ho hb hx hF rfl rfl rfl rfl ?_ | refine aT (v := .slice _ _ _) ho hb hx hF rfl rfl rfl rfl ?_ | refine aT (v := .bool _) ho hb hx hF rfl rfl rfl rfl ?_); clear ho hx hb hF; intro ww hF; simp only [nf] at hF)
       )
      refine (ch.out _ hF.data).mono ?_
      rintro _ w1 ⟨rfl, hbn⟩
      replace hF := hF.call hbn
      clear hbn
      go_wp2_with (first
       | go_skip
       | (refine aA rfl rfl hF ?_; clear hF; intro gg ww hF; simp only [nf] at hF)
       | (refine aB rfl rfl hF rfl ?_; clear hF; intro gg ww hF; simp only [nf] at hF)
       | (refine iL (t := 3) hF rfl rfl fun ho hx hb => ?_; refine aC (v := .int _ _) ho hb hx hF rfl rfl ?_; clear ho hx hb)
       | (refine iL hF rfl rfl fun ho hx hb => ?_; (first | refine aL ho hb hx hF rfl rfl ?_ | refine aC (v := .slice _ _ _) ho hb hx hF rfl rfl ?_ | refine aC (v := .string _) ho hb hx hF rfl rfl ?_ | refine aC (v := .bool _) ho hb hx hF rfl rfl ?_); clear ho hx hb)
       | (refine iS hF rfl rfl fun ho hx hb => ?_; (first | refine aS ho hb hx hF rfl rfl rfl rfl ?_ | refine aT (v := .int _ _) ho hb hx hF rfl rfl rfl rfl ?_ | refine aT (v := .slice _ _ _) ho hb hx hF rfl rfl rfl rfl ?_ | refine aT (v := .bool _) ho hb hx hF rfl rfl rfl rfl ?_); clear ho hx hb hF; intro ww hF; simp only [nf] at hF)
       )
      refine (ck.out _ hF.data).mono ?_
      rintro _ w2 ⟨A2, c2, rfl, hr2, hbn, hn2⟩
      have g2 := hF.below.size
      replace hF := hF.rows hbn hr2 hn2 (fun _ h => h)
      clear hbn hr2
      go_wp2_with (first
       | go_skip
       | (refine aA rfl rfl hF ?_; clear hF; intro gg ww hF; simp only [nf] at hF)
       | (refine aB rfl rfl hF rfl ?_; clear hF; intro gg ww hF; simp only [nf] at hF)
       | (refine iL (t := 3) hF rfl rfl fun ho hx hb => ?_; refine aC (v := .int _ _) ho hb hx hF rfl rfl ?_; clear ho hx hb)
       | (refine iL hF rfl rfl fun ho hx hb => ?_; (first | refine aL ho hb hx hF rfl rfl ?_ | refine aC (v := .slice _ _ _) ho hb hx hF rfl rfl ?_ | refine aC (v := .string _) ho hb hx hF rfl rfl ?_ | refine aC (v := .bool _) ho hb hx hF rfl rfl ?_); clear ho hx hb)
       | (refine iS hF rfl rfl fun ho hx hb => ?_; (first | refine aS ho hb hx hF rfl rfl rfl rfl ?_ | refine aT (v := .int _ _) ho hb hx hF rfl rfl rfl rfl ?_ | refine aT (v := .slice _ _ _) ho hb hx hF rfl rfl rfl rfl ?_ | refine aT (v := .bool _) ho hb hx hF rfl rfl rfl rfl ?_); clear ho hx hb hF; intro ww hF; simp only [nf] at hF)
       )
      refine (cs.out _ A2 c2 hF.data.2).mono ?_
      rintro _ w3 ⟨rfl, hbn⟩
      replace hF := hF.call hbn
      clear hbn
      go_wp2_with (first
       | go_skip
       | (refine aA rfl rfl hF ?_; clear hF; intro gg ww hF; simp only [nf] at hF)
       | (refine aB rfl rfl hF rfl ?_; clear hF; intro gg ww hF; simp only [nf] at hF)
       | (refine iL (t := 3) hF rfl rfl fun ho hx hb => ?_; refine aC (v := .int _ _) ho hb hx hF rfl rfl ?_; clear ho hx hb)
       | (refine iL hF rfl rfl fun ho hx hb => ?_; (first | refine aL ho hb hx hF rfl rfl ?_ | refine aC (v := .slice _ _ _) ho hb hx hF rfl rfl ?_ | refine aC (v := .string _) ho hb hx hF rfl rfl ?_ | refine aC (v := .bool _) ho hb hx hF rfl rfl ?_); clear ho hx hb)
       | (refine iS hF rfl rfl fun ho hx hb => ?_; (first | refine aS ho hb hx hF rfl rfl rfl rfl ?_ | refine aT (v := .int _ _) ho hb hx hF rfl rfl rfl rfl ?_ | refine aT (v := .slice _ _ _) ho hb hx hF rfl rfl rfl rfl ?_ | refine aT (v := .bool _) ho hb hx hF rfl rfl rfl rfl ?_); clear ho hx hb hF; intro ww hF; simp only [nf] at hF)
       )
      refine (cd.out _).mono ?_
      rintro _ w4 ⟨rfl, hbn⟩
      replace hF := hF.call hbn
      clear hbn
      go_wp2_with (first
       | go_skip
       | (refine aA rfl rfl hF ?_; clear hF; intro gg ww hF; simp only [nf] at hF)
       | (refine aB rfl rfl hF rfl ?_; clear hF; intro gg ww hF; simp only [nf] at hF)
       | (refine iL (t := 3) hF rfl rfl fun ho hx hb => ?_; refine aC (v := .int _ _) ho hb hx hF rfl rfl ?_; clear ho hx hb)
       | (refine iL hF rfl rfl fun ho hx hb => ?_; (first | refine aL ho hb hx hF rfl rfl ?_ | refine aC (v := .slice _ _ _) ho hb hx hF rfl rfl ?_ | refine aC (v := .string _) ho hb hx hF rfl rfl ?_ | refine aC (v := .bool _) ho hb hx hF rfl rfl ?_); clear ho hx hb)
       | (refine iS hF rfl rfl fun ho hx hb => ?_; (first | refine aS ho hb hx hF rfl rfl rfl rfl ?_ | refine aT (v := .int _ _) ho hb hx hF rfl rfl rfl rfl ?_ | refine aT (v := .slice _ _ _) ho hb hx hF rfl rfl rfl rfl ?_ | refine aT (v := .bool _) ho hb hx hF rfl rfl rfl rfl ?_); clear ho hx hb hF; intro ww hF; simp only [nf] at hF)
       )
      refine (cr3.out _ A2 c2 hF.data.2).mono ?_
      rintro _ w5 ⟨rfl, hbn⟩
      replace hF := hF.call hbn
      clear hbn
      go_wp2_with (first
       | go_skip
       | (refine aA rfl rfl hF ?_; clear hF; intro gg ww hF; simp only [nf] at hF)
       | (refine aB rfl rfl hF rfl ?_; clear hF; intro gg ww hF; simp only [nf] at hF)
       | (refine iL (t := 3) hF rfl rfl fun ho hx hb => ?_; refine aC (v := .int _ _) ho hb hx hF rfl rfl ?_; clear ho hx hb)
       | (refine iL hF rfl rfl fun ho hx hb => ?_; (first | refine aL ho hb hx hF rfl rfl ?_ | refine aC (v := .slice _ _ _) ho hb hx hF rfl rfl ?_ | refine aC (v := .string _) ho hb hx hF rfl rfl ?_ | refine aC (v := .bool _) ho hb hx hF rfl rfl ?_); clear ho hx hb)
       | (refine iS hF rfl rfl fun ho hx hb => ?_; (first | refine aS ho hb hx hF rfl rfl rfl rfl ?_ | refine aT (v := .int _ _) ho hb hx hF rfl rfl rfl rfl ?_ | refine aT (v := .slice _ _ _) ho hb hx hF rfl rfl rfl rfl ?_ | refine aT (v := .bool _) ho hb hx hF rfl rfl rfl rfl ?_); clear ho hx hb hF; intro ww hF; simp only [nf] at hF)
       )
      refine rgw [] [_, _] hF (.cons_cons _ (.cons_cons _ (.cons _ (.cons _ (.cons _ (.cons _ (.cons _ (.cons _ .slnil)))))))) fun hF => ?_
      refine tkb 0 0 [] rfl rfl rfl rfl rfl ?_
      try simp only [nrm, Act.put]
      refine tkb 1 1 [] rfl rfl rfl rfl rfl ?_
      try simp only [nrm, Act.put]
      refine stw 2 2 hF rfl rfl rfl rfl rfl rfl rfl rfl ?_
      clear hF; intro ww hF; simp only [nf] at hF
      try simp only [nrm, Act.put]
      refine stw 3 3 hF rfl rfl rfl rfl rfl rfl rfl rfl ?_
      clear hF; intro ww hF; simp only [nf] at hF
      try simp only [nrm, Act.put]
      refine tkf 4 rfl ?_
      try simp only [nrm, Act.put]
      refine tkf 5 rfl ?_
      try simp only [nrm, Act.put]
      refine tkf 6 rfl ?_
      try simp only [nrm, Act.put]
      refine dnw ?_
      go_wp2_with (first
       | go_skip
       | (refine aA rfl rfl hF ?_; clear hF; intro gg ww hF; simp only [nf] at hF)
       | (refine aB rfl rfl hF rfl ?_; clear hF; intro gg ww hF; simp only [nf] at hF)
       | (refine iL (t := 3) hF rfl rfl fun ho hx hb => ?_; refine aC (v := .int _ _) ho hb hx hF rfl rfl ?_; clear ho hx hb)
       | (refine iL hF rfl rfl fun ho hx hb => ?_; (first | refine aL ho hb hx hF rfl rfl ?_ | refine aC (v := .slice _ _ _) ho hb hx hF rfl rfl ?_ | refine aC (v := .string _) ho hb hx hF rfl rfl ?_ | refine aC (v := .bool _) ho hb hx hF rfl rfl ?_); clear ho hx hb)
       | (refine iS hF rfl rfl fun ho hx hb => ?_; (first | refine aS ho hb hx hF rfl rfl rfl rfl ?_ | refine aT (v := .int _ _) ho hb hx hF rfl rfl rfl rfl ?_ | refine aT (v := .slice _ _ _) ho hb hx hF rfl rfl rfl rfl ?_ | refine aT (v := .bool _) ho hb hx hF rfl rfl rfl rfl ?_); clear ho hx hb hF; intro ww hF; simp only [nf] at hF)
       )
      refine bodyPost_ret (results5 Tryz.results66 (res_cell 2 hF rfl rfl rfl) (res_cell 3 hF rfl rfl rfl) (.tmp _) (.tmp _) (.tmp _)) rfl ⟨_, by rw [hv.out]; rfl, ?_⟩
      rw [hv.out]
      exact StR.same (b := b) (cl := cl) HR.out hF.below
    ·
     have hv : Hid (enterP b.cls rs s sess id.data.toList key = (putL l s.now (recOf 3 s.n (untilI s.now 120) false ((k : Int) + 1) 0 sess 0 (wantOf r)), drawS s, sess, (s).n, 0)) := by show _ = _; rw [HV.out, enter2, if_neg hbad]
     have h3 : drawB s = true := by cases h : drawB s; exact absurd (.inl h) hbad; rfl
     have h4 : (roomI l s.now 3 == 0) = false := by rw [beq_eq_false_iff_ne]; exact fun h => hbad (.inr h)
     obtain ⟨d3, k3, _⟩ := drew_on h3
     rw [h3, k3] at cd
     have cp := Lib.hid (fun W A c h => rput_walk l A c s.now (recOf 3 s.n (untilI s.now 120) false ((k : Int) + 1) 0 sess 0 (wantOf r)) W h (by omega))
     generalize putL l s.now (recOf 3 s.n (untilI s.now 120) false ((k : Int) + 1) 0 sess 0 (wantOf r)) = L1 at cp hv
     generalize putC l s.now (recOf 3 s.n (untilI s.now 120) false ((k : Int) + 1) 0 sess 0 (wantOf r)) = e1 at cp
     rw [door_arr] at cp
     clear hbad h3 k3 d3 HV
     go_enter Tryz.func66, Tryz.ntmps66
     go_wp2_with (first
      | go_skip
      | (refine aA rfl rfl hF ?_; clear hF; intro gg ww hF; simp only [nf] at hF)
      | (refine aB rfl rfl hF rfl ?_; clear hF; intro gg ww hF; simp only [nf] at hF)
      | (refine iL (t := 3) hF rfl rfl fun ho hx hb => ?_; refine aC (v := .int _ _) ho hb hx hF rfl rfl ?_; clear ho hx hb)
      | (refine iL hF rfl rfl fun ho hx hb => ?_; (first | refine aL ho hb hx hF rfl rfl ?_ | refine aC (v := .slice _ _ _) ho hb hx hF rfl rfl ?_ | refine aC (v := .string _) ho hb hx hF rfl rfl ?_ | refine aC (v := .bool _) ho hb hx hF rfl rfl ?_); clear ho hx hb)
      | (refine iS hF rfl rfl fun ho hx hb => ?_; (first | refine aS ho hb hx hF rfl rfl rfl rfl ?_ | refine aT (v := .int _ _) ho hb hx hF rfl rfl rfl rfl ?_ | refine aT (v := .slice _ _ _) ho hb hx hF rfl rfl rfl rfl ?_ | refine aT (v := .bool _) ho hb hx hF rfl rfl rfl rfl ?_); clear ho hx hb hF; intro ww hF; simp only [nf] at hF)
      )
     refine (cf.out _ hF.below).mono ?_
     rintro _ w1 ⟨rfl, rfl⟩
     go_wp2_with (first
      | go_skip
      | (refine aA rfl rfl hF ?_; clear hF; intro gg ww hF; simp only [nf] at hF)
      | (refine aB rfl rfl hF rfl ?_; clear hF; intro gg ww hF; simp only [nf] at hF)
      | (refine iL (t := 3) hF rfl rfl fun ho hx hb => ?_; refine aC (v := .int _ _) ho hb hx hF rfl rfl ?_; clear ho hx hb)
      | (refine iL hF rfl rfl fun ho hx hb => ?_; (first | refine aL ho hb hx hF rfl rfl ?_ | refine aC (v := .slice _ _ _) ho hb hx hF rfl rfl ?_ | refine aC (v := .string _) ho hb hx hF rfl rfl ?_ | refine aC (v := .bool _) ho hb hx hF rfl rfl ?_); clear ho hx hb)
      | (refine iS hF rfl rfl fun ho hx hb => ?_; (first | refine aS ho hb hx hF rfl rfl rfl rfl ?_ | refine aT (v := .int _ _) ho hb hx hF rfl rfl rfl rfl ?_ | refine aT (v := .slice _ _ _) ho hb hx hF rfl rfl rfl rfl ?_ | refine aT (v := .bool _) ho hb hx hF rfl rfl rfl rfl ?_); clear ho hx hb hF; intro ww hF; simp only [nf] at hF)
      )
     refine (ch.out _ hF.data).mono ?_
     rintro _ w1 ⟨rfl, hbn⟩
     replace hF := hF.call hbn
     clear hbn
     go_wp2_with (first
      | go_skip
      | (refine aA rfl rfl hF ?_; clear hF; intro gg ww hF; simp only [nf] at hF)
      | (refine aB rfl rfl hF rfl ?_; clear hF; intro gg ww hF; simp only [nf] at hF)
      | (refine iL (t := 3) hF rfl rfl fun ho hx hb => ?_; refine aC (v := .int _ _) ho hb hx hF rfl rfl ?_; clear ho hx hb)
      | (refine iL hF rfl rfl fun ho hx hb => ?_; (first | refine aL ho hb hx hF rfl rfl ?_ | refine aC (v := .slice _ _ _) ho hb hx hF rfl rfl ?_ | refine aC (v := .string _) ho hb hx hF rfl rfl ?_ | refine aC (v := .bool _) ho hb hx hF rfl rfl ?_); clear ho hx hb)
      | (refine iS hF rfl rfl fun ho hx hb => ?_; (first | refine aS ho hb hx hF rfl rfl rfl rfl ?_ | refine aT (v := .int _ _) ho hb hx hF rfl rfl rfl rfl ?_ | refine aT (v := .slice _ _ _) ho hb hx hF rfl rfl rfl rfl ?_ | refine aT (v := .bool _) ho hb hx hF rfl rfl rfl rfl ?_); clear ho hx hb hF; intro ww hF; simp only [nf] at hF)
      )
     refine (ck.out _ hF.data).mono ?_
     rintro _ w2 ⟨A2, c2, rfl, hr2, hbn, hn2⟩
     have g2 := hF.below.size
     replace hF := hF.rows hbn hr2 hn2 (fun _ h => h)
     clear hbn hr2
     go_wp2_with (first
      | go_skip
      | (refine aA rfl rfl hF ?_; clear hF; intro gg ww hF; simp only [nf] at hF)
      | (refine aB rfl rfl hF rfl ?_; clear hF; intro gg ww hF; simp only [nf] at hF)
      | (refine iL (t := 3) hF rfl rfl fun ho hx hb => ?_; refine aC (v := .int _ _) ho hb hx hF rfl rfl ?_; clear ho hx hb)
      | (refine iL hF rfl rfl fun ho hx hb => ?_; (first | refine aL ho hb hx hF rfl rfl ?_ | refine aC (v := .slice _ _ _) ho hb hx hF rfl rfl ?_ | refine aC (v := .string _) ho hb hx hF rfl rfl ?_ | refine aC (v := .bool _) ho hb hx hF rfl rfl ?_); clear ho hx hb)
      | (refine iS hF rfl rfl fun ho hx hb => ?_; (first | refine aS ho hb hx hF rfl rfl rfl rfl ?_ | refine aT (v := .int _ _) ho hb hx hF rfl rfl rfl rfl ?_ | refine aT (v := .slice _ _ _) ho hb hx hF rfl rfl rfl rfl ?_ | refine aT (v := .bool _) ho hb hx hF rfl rfl rfl rfl ?_); clear ho hx hb hF; intro ww hF; simp only [nf] at hF)
      )
     refine (cs.out _ A2 c2 hF.data.2).mono ?_
     rintro _ w3 ⟨rfl, hbn⟩
     replace hF := hF.call hbn
     clear hbn
     go_wp2_with (first
      | go_skip
      | (refine aA rfl rfl hF ?_; clear hF; intro gg ww hF; simp only [nf] at hF)
      | (refine aB rfl rfl hF rfl ?_; clear hF; intro gg ww hF; simp only [nf] at hF)
      | (refine iL (t := 3) hF rfl rfl fun ho hx hb => ?_; refine aC (v := .int _ _) ho hb hx hF rfl rfl ?_; clear ho hx hb)
      | (refine iL hF rfl rfl fun ho hx hb => ?_; (first | refine aL ho hb hx hF rfl rfl ?_ | refine aC (v := .slice _ _ _) ho hb hx hF rfl rfl ?_ | refine aC (v := .string _) ho hb hx hF rfl rfl ?_ | refine aC (v := .bool _) ho hb hx hF rfl rfl ?_); clear ho hx hb)
      | (refine iS hF rfl rfl fun ho hx hb => ?_; (first | refine aS ho hb hx hF rfl rfl rfl rfl ?_ | refine aT (v := .int _ _) ho hb hx hF rfl rfl rfl rfl ?_ | refine aT (v := .slice _ _ _) ho hb hx hF rfl rfl rfl rfl ?_ | refine aT (v := .bool _) ho hb hx hF rfl rfl rfl rfl ?_); clear ho hx hb hF; intro ww hF; simp only [nf] at hF)
      )
     refine (cd.out _).mono ?_
     rintro _ w4 ⟨rfl, hbn⟩
     replace hF := hF.call hbn
     clear hbn
     go_wp2_with (first
      | go_skip
      | (refine aA rfl rfl hF ?_; clear hF; intro gg ww hF; simp only [nf] at hF)
      | (refine aB rfl rfl hF rfl ?_; clear hF; intro gg ww hF; simp only [nf] at hF)
      | (refine iL (t := 3) hF rfl rfl fun ho hx hb => ?_; refine aC (v := .int _ _) ho hb hx hF rfl rfl ?_; clear ho hx hb)
      | (refine iL hF rfl rfl fun ho hx hb => ?_; (first | refine aL ho hb hx hF rfl rfl ?_ | refine aC (v := .slice _ _ _) ho hb hx hF rfl rfl ?_ | refine aC (v := .string _) ho hb hx hF rfl rfl ?_ | refine aC (v := .bool _) ho hb hx hF rfl rfl ?_); clear ho hx hb)
      | (refine iS hF rfl rfl fun ho hx hb => ?_; (first | refine aS ho hb hx hF rfl rfl rfl rfl ?_ | refine aT (v := .int _ _) ho hb hx hF rfl rfl rfl rfl ?_ | refine aT (v := .slice _ _ _) ho hb hx hF rfl rfl rfl rfl ?_ | refine aT (v := .bool _) ho hb hx hF rfl rfl rfl rfl ?_); clear ho hx hb hF; intro ww hF; simp only [nf] at hF)
      )
     refine (cr3.out _ A2 c2 hF.data.2).mono ?_
     rintro _ w5 ⟨rfl, hbn⟩
     replace hF := hF.call hbn
     clear hbn
     go_wp2_with (first
      | go_skip
      | (refine aA rfl rfl hF ?_; clear hF; intro gg ww hF; simp only [nf] at hF)
      | (refine aB rfl rfl hF rfl ?_; clear hF; intro gg ww hF; simp only [nf] at hF)
      | (refine iL (t := 3) hF rfl rfl fun ho hx hb => ?_; refine aC (v := .int _ _) ho hb hx hF rfl rfl ?_; clear ho hx hb)
      | (refine iL hF rfl rfl fun ho hx hb => ?_; (first | refine aL ho hb hx hF rfl rfl ?_ | refine aC (v := .slice _ _ _) ho hb hx hF rfl rfl ?_ | refine aC (v := .string _) ho hb hx hF rfl rfl ?_ | refine aC (v := .bool _) ho hb hx hF rfl rfl ?_); clear ho hx hb)
      | (refine iS hF rfl rfl fun ho hx hb => ?_; (first | refine aS ho hb hx hF rfl rfl rfl rfl ?_ | refine aT (v := .int _ _) ho hb hx hF rfl rfl rfl rfl ?_ | refine aT (v := .slice _ _ _) ho hb hx hF rfl rfl rfl rfl ?_ | refine aT (v := .bool _) ho hb hx hF rfl rfl rfl rfl ?_); clear ho hx hb hF; intro ww hF; simp only [nf] at hF)
      )
     refine rgw [] _ hF (List.Sublist.refl _) fun hF => ?_
     refine tkf 0 rfl ?_
     try simp only [nrm, Act.put]
     refine tkf 1 rfl ?_
     try simp only [nrm, Act.put]
     refine tkc 2 1 [] (v := .int _ _) rfl rfl rfl rfl rfl ?_
     try simp only [nrm, Act.put]
     refine tkf 3 rfl ?_
     try simp only [nrm, Act.put]
     refine tkf 4 rfl ?_
     try simp only [nrm, Act.put]
     refine tkc 5 1 [] (v := .int _ _) rfl rfl rfl rfl rfl ?_
     try simp only [nrm, Act.put]
     refine tkf 8 rfl ?_
     try simp only [nrm, Act.put]
     refine tkf 9 rfl ?_
     try simp only [nrm, Act.put]
     refine tkf 10 rfl ?_
     try simp only [nrm, Act.put]
     refine tkp 11 4 [] (wantOf r).cells rfl rfl rfl rfl (want_part r) rfl ?_
     try simp only [nrm, Act.put]
     refine rdw 6 rfl fun K hK => ?_
     go_simp
     go_at_call 87
     with_reducible refine (cl3.out _).mono ?_
     rintro _ ww ⟨rfl, hbn⟩
     replace hF := hF.call hbn
     refine hK.out _ _ (by (first | exact HoldA.past rfl | exact HoldA.of (by assumption) _ | exact HoldA.of (Fr.sub hF (by repeat (first | exact List.Sublist.slnil | apply List.Sublist.cons_cons | apply List.Sublist.cons))) _)) (fun _ => ?_)
     clear hK K; try clear hbn
     try simp only [nrm, Act.put]
     refine rdw 7 rfl fun K hK => ?_
     go_simp
     go_at_call 52
     with_reducible refine (cu3.out _).mono ?_
     rintro _ ww ⟨rfl, rfl⟩
     skip
     refine hK.out _ _ (by (first | exact HoldA.past rfl | exact HoldA.of (by assumption) _ | exact HoldA.of (Fr.sub hF (by repeat (first | exact List.Sublist.slnil | apply List.Sublist.cons_cons | apply List.Sublist.cons))) _)) (fun _ => ?_)
     clear hK K; try clear hbn
     try simp only [nrm, Act.put]
     refine tkf 12 rfl ?_ (v := .agg #[.int .i64 3, .int .i64 (s).n, .int .i64 (untilI s.now 120), .bool false, .int .i64 ((k : Int) + 1), .int .i64 0, .int .i64 sess, .int .i64 0, .string r.s1, .string r.s2, .string r.s3, .string r.s4, .string r.s5, .string r.s6, .string r.s7]) (hv := fun w => by kernel_rfl)
     try simp only [nrm, Act.put]
     refine rdw 13 rfl fun K hK => ?_
     go_simp
     go_at_call 86
     with_reducible refine (cp.out _ _ _ (hF.data.2)).mono ?_
     rintro _ ww ⟨A5, c5, rfl, hr5, hbn, hn5⟩
     have g5 := hF.below.size
     have hF0 := hF.call hbn
     replace hF := hF.rows hbn hr5 hn5 (fun _ h => h.2)
     refine hK.out _ _ (by (first | exact HoldA.past rfl | exact HoldA.of (by assumption) _ | exact HoldA.of (Fr.sub hF (by repeat (first | exact List.Sublist.slnil | apply List.Sublist.cons_cons | apply List.Sublist.cons))) _)) (fun _ => ?_)
     clear hK K; try clear hbn
     try simp only [nrm, Act.put]
     refine tkf 14 rfl ?_
     try simp only [nrm, Act.put]
     refine tkf 15 rfl ?_
     try simp only [nrm, Act.put]
     refine tkf 16 rfl ?_
     try simp only [nrm, Act.put]
     refine tkf 17 rfl ?_
     try simp only [nrm, Act.put]
     refine dnw ?_
     go_wp2_with (first
      | go_skip
      | (refine aA rfl rfl hF ?_; clear hF; intro gg ww hF; simp only [nf] at hF)
      | (refine aB rfl rfl hF rfl ?_; clear hF; intro gg ww hF; simp only [nf] at hF)
      | (refine iL (t := 3) hF rfl rfl fun ho hx hb => ?_; refine aC (v := .int _ _) ho hb hx hF rfl rfl ?_; clear ho hx hb)
      | (refine iL hF rfl rfl fun ho hx hb => ?_; (first | refine aL ho hb hx hF rfl rfl ?_ | refine aC (v := .slice _ _ _) ho hb hx hF rfl rfl ?_ | refine aC (v := .string _) ho hb hx hF rfl rfl ?_ | refine aC (v := .bool _) ho hb hx hF rfl rfl ?_); clear ho hx hb)
      | (refine iS hF rfl rfl fun ho hx hb => ?_; (first | refine aS ho hb hx hF rfl rfl rfl rfl ?_ | refine aT (v := .int _ _) ho hb hx hF rfl rfl rfl rfl ?_ | refine aT (v := .slice _ _ _) ho hb hx hF rfl rfl rfl rfl ?_ | refine aT (v := .bool _) ho hb hx hF rfl rfl rfl rfl ?_); clear ho hx hb hF; intro ww hF; simp only [nf] at hF)
      )
     refine rgw [] [_, _] hF (.cons_cons _ (.cons _ (.cons _ (.cons _ (.cons _ (.cons _ (.cons_cons _ (.cons _ .slnil)))))))) fun hF => ?_
     refine tkb 0 0 [] rfl rfl rfl rfl rfl ?_
     try simp only [nrm, Act.put]
     refine tkb 1 1 [] rfl rfl rfl rfl rfl ?_
     try simp only [nrm, Act.put]
     refine tkf 2 rfl ?_
     try simp only [nrm, Act.put]
     refine tkf 3 rfl ?_
     try simp only [nrm, Act.put]
     refine stw 4 2 hF rfl rfl rfl rfl rfl rfl rfl rfl ?_
     clear hF; intro ww hF; simp only [nf] at hF
     try simp only [nrm, Act.put]
     refine stw 5 3 hF rfl rfl rfl rfl rfl rfl rfl rfl ?_
     clear hF; intro ww hF; simp only [nf] at hF
     try simp only [nrm, Act.put]
     refine tkf 6 rfl ?_
     try simp only [nrm, Act.put]
     refine tkf 7 rfl ?_
     try simp only [nrm, Act.put]
     refine tkf 8 rfl ?_
     try simp only [nrm, Act.put]
     refine dnw ?_
     go_wp2_with (first
      | go_skip
      | (refine aA rfl rfl hF ?_; clear hF; intro gg ww hF; simp only [nf] at hF)
      | (refine aB rfl rfl hF rfl ?_; clear hF; intro gg ww hF; simp only [nf] at hF)
      | (refine iL (t := 3) hF rfl rfl fun ho hx hb => ?_; refine aC (v := .int _ _) ho hb hx hF rfl rfl ?_; clear ho hx hb)
      | (refine iL hF rfl rfl fun ho hx hb => ?_; (first | refine aL ho hb hx hF rfl rfl ?_ | refine aC (v := .slice _ _ _) ho hb hx hF rfl rfl ?_ | refine aC (v := .string _) ho hb hx hF rfl rfl ?_ | refine aC (v := .bool _) ho hb hx hF rfl rfl ?_); clear ho hx hb)
      | (refine iS hF rfl rfl fun ho hx hb => ?_; (first | refine aS ho hb hx hF rfl rfl rfl rfl ?_ | refine aT (v := .int _ _) ho hb hx hF rfl rfl rfl rfl ?_ | refine aT (v := .slice _ _ _) ho hb hx hF rfl rfl rfl rfl ?_ | refine aT (v := .bool _) ho hb hx hF rfl rfl rfl rfl ?_); clear ho hx hb hF; intro ww hF; simp only [nf] at hF)
      )
     refine bodyPost_ret (results5 Tryz.results66 (res_cell 2 hF rfl rfl rfl) (res_cell 3 hF rfl rfl rfl) (.tmp _) (.tmp _) (.tmp _)) rfl ⟨_, by rw [hv.out]; rfl, ?_⟩
     rw [hv.out]
     exact ⟨A5, c5, rfl, hF.data.2, NewRow.trans (NewRow.up g2 hn2) g5 hn5, hF.below⟩
   | none =>
    have cr2 := Lib.hid (fun W A c h => rroom_walk l A c s.now 2 W h)
    have cl2 := Lib.hid (fun W => rlife_walk 2 W)
    have cu2 := Lib.hid (fun W => runtil_walk s.now (lifeI 2) W HT.out.1 (by have := HT.out.2; omega) (by decide))
    rw [show lifeI 2 = 900 from rfl] at cl2 cu2
    by_cases hbad : drawB s = false ∨ roomI l s.now 2 = 0
    ·
     have hv : Hid (enterP b.cls rs s sess id.data.toList key = (rs, s, 0, 0, 16)) := by show _ = _; rw [HV.out, if_neg (by simp), if_pos hbad]
     have hcase : drawB s = false ∨ (drawB s = true ∧ roomI l s.now 2 = 0) := by
      cases h1 : drawB s
      ·
       exact .inl rfl
      ·
       refine .inr ⟨rfl, ?_⟩
       rcases hbad with h | h
       ·
        rw [h1] at h; cases h
       ·
        exact h
     clear hbad HV
     rcases hcase with h3 | ⟨h3, h4⟩
     ·
      rw [h3] at cn
      clear h3
      go_enter Tryz.func66, Tryz.ntmps66
      go_wp2_with (first
       | go_skip
       | (refine aA rfl rfl hF ?_; clear hF; intro gg ww hF; simp only [nf] at hF)
       | (refine aB rfl rfl hF rfl ?_; clear hF; intro gg ww hF; simp only [nf] at hF)
       | (refine iL (t := 3) hF rfl rfl fun ho hx hb => ?_; refine aC (v := .int _ _) ho hb hx hF rfl rfl ?_; clear ho hx hb)
       | (refine iL hF rfl rfl fun ho hx hb => ?_; (first | refine aL ho hb hx hF rfl rfl ?_ | refine aC (v := .slice _ _ _) ho hb hx hF rfl rfl ?_ | refine aC (v := .string _) ho hb hx hF rfl rfl ?_ | refine aC (v := .bool _) ho hb hx hF rfl rfl ?_); clear ho hx hb)
       | (refine iS hF rfl rfl fun ho hx hb => ?_; (first | refine aS ho hb hx hF rfl rfl rfl rfl ?_ | refine aT (v := .int _ _) ho hb hx hF rfl rfl rfl rfl ?_ | refine aT (v := .slice _ _ _) ho hb hx hF rfl rfl rfl rfl ?_ | refine aT (v := .bool _) ho hb hx hF rfl rfl rfl rfl ?_); clear ho hx hb hF; intro ww hF; simp only [nf] at hF)
       )
      refine (cf.out _ hF.below).mono ?_
      rintro _ w1 ⟨rfl, rfl⟩
      go_wp2_with (first
       | go_skip
       | (refine aA rfl rfl hF ?_; clear hF; intro gg ww hF; simp only [nf] at hF)
       | (refine aB rfl rfl hF rfl ?_; clear hF; intro gg ww hF; simp only [nf] at hF)
       | (refine iL (t := 3) hF rfl rfl fun ho hx hb => ?_; refine aC (v := .int _ _) ho hb hx hF rfl rfl ?_; clear ho hx hb)
       | (refine iL hF rfl rfl fun ho hx hb => ?_; (first | refine aL ho hb hx hF rfl rfl ?_ | refine aC (v := .slice _ _ _) ho hb hx hF rfl rfl ?_ | refine aC (v := .string _) ho hb hx hF rfl rfl ?_ | refine aC (v := .bool _) ho hb hx hF rfl rfl ?_); clear ho hx hb)
       | (refine iS hF rfl rfl fun ho hx hb => ?_; (first | refine aS ho hb hx hF rfl rfl rfl rfl ?_ | refine aT (v := .int _ _) ho hb hx hF rfl rfl rfl rfl ?_ | refine aT (v := .slice _ _ _) ho hb hx hF rfl rfl rfl rfl ?_ | refine aT (v := .bool _) ho hb hx hF rfl rfl rfl rfl ?_); clear ho hx hb hF; intro ww hF; simp only [nf] at hF)
       )
      refine (ch.out _ hF.data).mono ?_
      rintro _ w1 ⟨rfl, hbn⟩
      replace hF := hF.call hbn
      clear hbn
      go_wp2_with (first
       | go_skip
       | (refine aA rfl rfl hF ?_; clear hF; intro gg ww hF; simp only [nf] at hF)
       | (refine aB rfl rfl hF rfl ?_; clear hF; intro gg ww hF; simp only [nf] at hF)
       | (refine iL (t := 3) hF rfl rfl fun ho hx hb => ?_; refine aC (v := .int _ _) ho hb hx hF rfl rfl ?_; clear ho hx hb)
       | (refine iL hF rfl rfl fun ho hx hb => ?_; (first | refine aL ho hb hx hF rfl rfl ?_ | refine aC (v := .slice _ _ _) ho hb hx hF rfl rfl ?_ | refine aC (v := .string _) ho hb hx hF rfl rfl ?_ | refine aC (v := .bool _) ho hb hx hF rfl rfl ?_); clear ho hx hb)
       | (refine iS hF rfl rfl fun ho hx hb => ?_; (first | refine aS ho hb hx hF rfl rfl rfl rfl ?_ | refine aT (v := .int _ _) ho hb hx hF rfl rfl rfl rfl ?_ | refine aT (v := .slice _ _ _) ho hb hx hF rfl rfl rfl rfl ?_ | refine aT (v := .bool _) ho hb hx hF rfl rfl rfl rfl ?_); clear ho hx hb hF; intro ww hF; simp only [nf] at hF)
       )
      refine (ck.out _ hF.data).mono ?_
      rintro _ w2 ⟨A2, c2, rfl, hr2, hbn, hn2⟩
      have g2 := hF.below.size
      replace hF := hF.rows hbn hr2 hn2 (fun _ h => h)
      clear hbn hr2
      go_wp2_with (first
       | go_skip
       | (refine aA rfl rfl hF ?_; clear hF; intro gg ww hF; simp only [nf] at hF)
       | (refine aB rfl rfl hF rfl ?_; clear hF; intro gg ww hF; simp only [nf] at hF)
       | (refine iL (t := 3) hF rfl rfl fun ho hx hb => ?_; refine aC (v := .int _ _) ho hb hx hF rfl rfl ?_; clear ho hx hb)
       | (refine iL hF rfl rfl fun ho hx hb => ?_; (first | refine aL ho hb hx hF rfl rfl ?_ | refine aC (v := .slice _ _ _) ho hb hx hF rfl rfl ?_ | refine aC (v := .string _) ho hb hx hF rfl rfl ?_ | refine aC (v := .bool _) ho hb hx hF rfl rfl ?_); clear ho hx hb)
       | (refine iS hF rfl rfl fun ho hx hb => ?_; (first | refine aS ho hb hx hF rfl rfl rfl rfl ?_ | refine aT (v := .int _ _) ho hb hx hF rfl rfl rfl rfl ?_ | refine aT (v := .slice _ _ _) ho hb hx hF rfl rfl rfl rfl ?_ | refine aT (v := .bool _) ho hb hx hF rfl rfl rfl rfl ?_); clear ho hx hb hF; intro ww hF; simp only [nf] at hF)
       )
      refine (cs.out _ A2 c2 hF.data.2).mono ?_
      rintro _ w3 ⟨rfl, hbn⟩
      replace hF := hF.call hbn
      clear hbn
      go_wp2_with (first
       | go_skip
       | (refine aA rfl rfl hF ?_; clear hF; intro gg ww hF; simp only [nf] at hF)
       | (refine aB rfl rfl hF rfl ?_; clear hF; intro gg ww hF; simp only [nf] at hF)
       | (refine iL (t := 3) hF rfl rfl fun ho hx hb => ?_; refine aC (v := .int _ _) ho hb hx hF rfl rfl ?_; clear ho hx hb)
       | (refine iL hF rfl rfl fun ho hx hb => ?_; (first | refine aL ho hb hx hF rfl rfl ?_ | refine aC (v := .slice _ _ _) ho hb hx hF rfl rfl ?_ | refine aC (v := .string _) ho hb hx hF rfl rfl ?_ | refine aC (v := .bool _) ho hb hx hF rfl rfl ?_); clear ho hx hb)
       | (refine iS hF rfl rfl fun ho hx hb => ?_; (first | refine aS ho hb hx hF rfl rfl rfl rfl ?_ | refine aT (v := .int _ _) ho hb hx hF rfl rfl rfl rfl ?_ | refine aT (v := .slice _ _ _) ho hb hx hF rfl rfl rfl rfl ?_ | refine aT (v := .bool _) ho hb hx hF rfl rfl rfl rfl ?_); clear ho hx hb hF; intro ww hF; simp only [nf] at hF)
       )
      refine (cn.out _).mono ?_
      rintro _ w4 ⟨rfl, hbn⟩
      replace hF := hF.call hbn
      clear hbn
      go_wp2_with (first
       | go_skip
       | (refine aA rfl rfl hF ?_; clear hF; intro gg ww hF; simp only [nf] at hF)
       | (refine aB rfl rfl hF rfl ?_; clear hF; intro gg ww hF; simp only [nf] at hF)
       | (refine iL (t := 3) hF rfl rfl fun ho hx hb => ?_; refine aC (v := .int _ _) ho hb hx hF rfl rfl ?_; clear ho hx hb)
       | (refine iL hF rfl rfl fun ho hx hb => ?_; (first | refine aL ho hb hx hF rfl rfl ?_ | refine aC (v := .slice _ _ _) ho hb hx hF rfl rfl ?_ | refine aC (v := .string _) ho hb hx hF rfl rfl ?_ | refine aC (v := .bool _) ho hb hx hF rfl rfl ?_); clear ho hx hb)
       | (refine iS hF rfl rfl fun ho hx hb => ?_; (first | refine aS ho hb hx hF rfl rfl rfl rfl ?_ | refine aT (v := .int _ _) ho hb hx hF rfl rfl rfl rfl ?_ | refine aT (v := .slice _ _ _) ho hb hx hF rfl rfl rfl rfl ?_ | refine aT (v := .bool _) ho hb hx hF rfl rfl rfl rfl ?_); clear ho hx hb hF; intro ww hF; simp only [nf] at hF)
       )
      refine rgw [] [_, _] hF (.cons_cons _ (.cons_cons _ (.cons _ (.cons _ (.cons _ (.cons _ (.cons _ (.cons _ .slnil)))))))) fun hF => ?_
      refine tkb 0 0 [] rfl rfl rfl rfl rfl ?_
      try simp only [nrm, Act.put]
      refine tkb 1 1 [] rfl rfl rfl rfl rfl ?_
      try simp only [nrm, Act.put]
      refine stw 2 2 hF rfl rfl rfl rfl rfl rfl rfl rfl ?_
      clear hF; intro ww hF; simp only [nf] at hF
      try simp only [nrm, Act.put]
      refine stw 3 3 hF rfl rfl rfl rfl rfl rfl rfl rfl ?_
      clear hF; intro ww hF; simp only [nf] at hF
      try simp only [nrm, Act.put]
      refine tkf 4 rfl ?_
      try simp only [nrm, Act.put]
      refine tkf 5 rfl ?_
      try simp only [nrm, Act.put]
      refine tkf 6 rfl ?_
      try simp only [nrm, Act.put]
      refine dnw ?_
      go_wp2_with (first
       | go_skip
       | (refine aA rfl rfl hF ?_; clear hF; intro gg ww hF; simp only [nf] at hF)
       | (refine aB rfl rfl hF rfl ?_; clear hF; intro gg ww hF; simp only [nf] at hF)
       | (refine iL (t := 3) hF rfl rfl fun ho hx hb => ?_; refine aC (v := .int _ _) ho hb hx hF rfl rfl ?_; clear ho hx hb)
       | (refine iL hF rfl rfl fun ho hx hb => ?_; (first | refine aL ho hb hx hF rfl rfl ?_ | refine aC (v := .slice _ _ _) ho hb hx hF rfl rfl ?_ | refine aC (v := .string _) ho hb hx hF rfl rfl ?_ | refine aC (v := .bool _) ho hb hx hF rfl rfl ?_); clear ho hx hb)
       | (refine iS hF rfl rfl fun ho hx hb => ?_; (first | refine aS ho hb hx hF rfl rfl rfl rfl ?_ | refine aT (v := .int _ _) ho hb hx hF rfl rfl rfl rfl ?_ | refine aT (v := .slice _ _ _) ho hb hx hF rfl rfl rfl rfl ?_ | refine aT (v := .bool _) ho hb hx hF rfl rfl rfl rfl ?_); clear ho hx hb hF; intro ww hF; simp only [nf] at hF)
       )
      refine bodyPost_ret (results5 Tryz.results66 (res_cell 2 hF rfl rfl rfl) (res_cell 3 hF rfl rfl rfl) (.tmp _) (.tmp _) (.tmp _)) rfl ⟨_, by rw [hv.out]; rfl, ?_⟩
      rw [hv.out]
      exact StR.same (b := b) (cl := cl) HR.out hF.below
     ·
      rw [h3] at cn
      rw [h4] at cr2
      clear h3 h4
      go_enter Tryz.func66, Tryz.ntmps66
      go_wp2_with (first
       | go_skip
       | (refine aA rfl rfl hF ?_; clear hF; intro gg ww hF; simp only [nf] at hF)
       | (refine aB rfl rfl hF rfl ?_; clear hF; intro gg ww hF; simp only [nf] at hF)
       | (refine iL (t := 3) hF rfl rfl fun ho hx hb => ?_; refine aC (v := .int _ _) ho hb hx hF rfl rfl ?_; clear ho hx hb)
       | (refine iL hF rfl rfl fun ho hx hb => ?_; (first | refine aL ho hb hx hF rfl rfl ?_ | refine aC (v := .slice _ _ _) ho hb hx hF rfl rfl ?_ | refine aC (v := .string _) ho hb hx hF rfl rfl ?_ | refine aC (v := .bool _) ho hb hx hF rfl rfl ?_); clear ho hx hb)
       | (refine iS hF rfl rfl fun ho hx hb => ?_; (first | refine aS ho hb hx hF rfl rfl rfl rfl ?_ | refine aT (v := .int _ _) ho hb hx hF rfl rfl rfl rfl ?_ | refine aT (v := .slice _ _ _) ho hb hx hF rfl rfl rfl rfl ?_ | refine aT (v := .bool _) ho hb hx hF rfl rfl rfl rfl ?_); clear ho hx hb hF; intro ww hF; simp only [nf] at hF)
       )
      refine (cf.out _ hF.below).mono ?_
      rintro _ w1 ⟨rfl, rfl⟩
      go_wp2_with (first
       | go_skip
       | (refine aA rfl rfl hF ?_; clear hF; intro gg ww hF; simp only [nf] at hF)
       | (refine aB rfl rfl hF rfl ?_; clear hF; intro gg ww hF; simp only [nf] at hF)
       | (refine iL (t := 3) hF rfl rfl fun ho hx hb => ?_; refine aC (v := .int _ _) ho hb hx hF rfl rfl ?_; clear ho hx hb)
       | (refine iL hF rfl rfl fun ho hx hb => ?_; (first | refine aL ho hb hx hF rfl rfl ?_ | refine aC (v := .slice _ _ _) ho hb hx hF rfl rfl ?_ | refine aC (v := .string _) ho hb hx hF rfl rfl ?_ | refine aC (v := .bool _) ho hb hx hF rfl rfl ?_); clear ho hx hb)
       | (refine iS hF rfl rfl fun ho hx hb => ?_; (first | refine aS ho hb hx hF rfl rfl rfl rfl ?_ | refine aT (v := .int _ _) ho hb hx hF rfl rfl rfl rfl ?_ | refine aT (v := .slice _ _ _) ho hb hx hF rfl rfl rfl rfl ?_ | refine aT (v := .bool _) ho hb hx hF rfl rfl rfl rfl ?_); clear ho hx hb hF; intro ww hF; simp only [nf] at hF)
       )
      refine (ch.out _ hF.data).mono ?_
      rintro _ w1 ⟨rfl, hbn⟩
      replace hF := hF.call hbn
      clear hbn
      go_wp2_with (first
       | go_skip
       | (refine aA rfl rfl hF ?_; clear hF; intro gg ww hF; simp only [nf] at hF)
       | (refine aB rfl rfl hF rfl ?_; clear hF; intro gg ww hF; simp only [nf] at hF)
       | (refine iL (t := 3) hF rfl rfl fun ho hx hb => ?_; refine aC (v := .int _ _) ho hb hx hF rfl rfl ?_; clear ho hx hb)
       | (refine iL hF rfl rfl fun ho hx hb => ?_; (first | refine aL ho hb hx hF rfl rfl ?_ | refine aC (v := .slice _ _ _) ho hb hx hF rfl rfl ?_ | refine aC (v := .string _) ho hb hx hF rfl rfl ?_ | refine aC (v := .bool _) ho hb hx hF rfl rfl ?_); clear ho hx hb)
       | (refine iS hF rfl rfl fun ho hx hb => ?_; (first | refine aS ho hb hx hF rfl rfl rfl rfl ?_ | refine aT (v := .int _ _) ho hb hx hF rfl rfl rfl rfl ?_ | refine aT (v := .slice _ _ _) ho hb hx hF rfl rfl rfl rfl ?_ | refine aT (v := .bool _) ho hb hx hF rfl rfl rfl rfl ?_); clear ho hx hb hF; intro ww hF; simp only [nf] at hF)
       )
      refine (ck.out _ hF.data).mono ?_
      rintro _ w2 ⟨A2, c2, rfl, hr2, hbn, hn2⟩
      have g2 := hF.below.size
      replace hF := hF.rows hbn hr2 hn2 (fun _ h => h)
      clear hbn hr2
      go_wp2_with (first
       | go_skip
       | (refine aA rfl rfl hF ?_; clear hF; intro gg ww hF; simp only [nf] at hF)
       | (refine aB rfl rfl hF rfl ?_; clear hF; intro gg ww hF; simp only [nf] at hF)
       | (refine iL (t := 3) hF rfl rfl fun ho hx hb => ?_; refine aC (v := .int _ _) ho hb hx hF rfl rfl ?_; clear ho hx hb)
       | (refine iL hF rfl rfl fun ho hx hb => ?_; (first | refine aL ho hb hx hF rfl rfl ?_ | refine aC (v := .slice _ _ _) ho hb hx hF rfl rfl ?_ | refine aC (v := .string _) ho hb hx hF rfl rfl ?_ | refine aC (v := .bool _) ho hb hx hF rfl rfl ?_); clear ho hx hb)
       | (refine iS hF rfl rfl fun ho hx hb => ?_; (first | refine aS ho hb hx hF rfl rfl rfl rfl ?_ | refine aT (v := .int _ _) ho hb hx hF rfl rfl rfl rfl ?_ | refine aT (v := .slice _ _ _) ho hb hx hF rfl rfl rfl rfl ?_ | refine aT (v := .bool _) ho hb hx hF rfl rfl rfl rfl ?_); clear ho hx hb hF; intro ww hF; simp only [nf] at hF)
       )
      refine (cs.out _ A2 c2 hF.data.2).mono ?_
      rintro _ w3 ⟨rfl, hbn⟩
      replace hF := hF.call hbn
      clear hbn
      go_wp2_with (first
       | go_skip
       | (refine aA rfl rfl hF ?_; clear hF; intro gg ww hF; simp only [nf] at hF)
       | (refine aB rfl rfl hF rfl ?_; clear hF; intro gg ww hF; simp only [nf] at hF)
       | (refine iL (t := 3) hF rfl rfl fun ho hx hb => ?_; refine aC (v := .int _ _) ho hb hx hF rfl rfl ?_; clear ho hx hb)
       | (refine iL hF rfl rfl fun ho hx hb => ?_; (first | refine aL ho hb hx hF rfl rfl ?_ | refine aC (v := .slice _ _ _) ho hb hx hF rfl rfl ?_ | refine aC (v := .string _) ho hb hx hF rfl rfl ?_ | refine aC (v := .bool _) ho hb hx hF rfl rfl ?_); clear ho hx hb)
       | (refine iS hF rfl rfl fun ho hx hb => ?_; (first | refine aS ho hb hx hF rfl rfl rfl rfl ?_ | refine aT (v := .int _ _) ho hb hx hF rfl rfl rfl rfl ?_ | refine aT (v := .slice _ _ _) ho hb hx hF rfl rfl rfl rfl ?_ | refine aT (v := .bool _) ho hb hx hF rfl rfl rfl rfl ?_); clear ho hx hb hF; intro ww hF; simp only [nf] at hF)
       )
      refine (cn.out _).mono ?_
      rintro _ w4 ⟨rfl, hbn⟩
      replace hF := hF.call hbn
      clear hbn
      go_wp2_with (first
       | go_skip
       | (refine aA rfl rfl hF ?_; clear hF; intro gg ww hF; simp only [nf] at hF)
       | (refine aB rfl rfl hF rfl ?_; clear hF; intro gg ww hF; simp only [nf] at hF)
       | (refine iL (t := 3) hF rfl rfl fun ho hx hb => ?_; refine aC (v := .int _ _) ho hb hx hF rfl rfl ?_; clear ho hx hb)
       | (refine iL hF rfl rfl fun ho hx hb => ?_; (first | refine aL ho hb hx hF rfl rfl ?_ | refine aC (v := .slice _ _ _) ho hb hx hF rfl rfl ?_ | refine aC (v := .string _) ho hb hx hF rfl rfl ?_ | refine aC (v := .bool _) ho hb hx hF rfl rfl ?_); clear ho hx hb)
       | (refine iS hF rfl rfl fun ho hx hb => ?_; (first | refine aS ho hb hx hF rfl rfl rfl rfl ?_ | refine aT (v := .int _ _) ho hb hx hF rfl rfl rfl rfl ?_ | refine aT (v := .slice _ _ _) ho hb hx hF rfl rfl rfl rfl ?_ | refine aT (v := .bool _) ho hb hx hF rfl rfl rfl rfl ?_); clear ho hx hb hF; intro ww hF; simp only [nf] at hF)
       )
      refine (cr2.out _ A2 c2 hF.data.2).mono ?_
      rintro _ w5 ⟨rfl, hbn⟩
      replace hF := hF.call hbn
      clear hbn
      go_wp2_with (first
       | go_skip
       | (refine aA rfl rfl hF ?_; clear hF; intro gg ww hF; simp only [nf] at hF)
       | (refine aB rfl rfl hF rfl ?_; clear hF; intro gg ww hF; simp only [nf] at hF)
       | (refine iL (t := 3) hF rfl rfl fun ho hx hb => ?_; refine aC (v := .int _ _) ho hb hx hF rfl rfl ?_; clear ho hx hb)
       | (refine iL hF rfl rfl fun ho hx hb => ?_; (first | refine aL ho hb hx hF rfl rfl ?_ | refine aC (v := .slice _ _ _) ho hb hx hF rfl rfl ?_ | refine aC (v := .string _) ho hb hx hF rfl rfl ?_ | refine aC (v := .bool _) ho hb hx hF rfl rfl ?_); clear ho hx hb)
       | (refine iS hF rfl rfl fun ho hx hb => ?_; (first | refine aS ho hb hx hF rfl rfl rfl rfl ?_ | refine aT (v := .int _ _) ho hb hx hF rfl rfl rfl rfl ?_ | refine aT (v := .slice _ _ _) ho hb hx hF rfl rfl rfl rfl ?_ | refine aT (v := .bool _) ho hb hx hF rfl rfl rfl rfl ?_); clear ho hx hb hF; intro ww hF; simp only [nf] at hF)
       )
      refine rgw [] [_, _] hF (.cons_cons _ (.cons_cons _ (.cons _ (.cons _ (.cons _ (.cons _ (.cons _ (.cons _ .slnil)))))))) fun hF => ?_
      refine tkb 0 0 [] rfl rfl rfl rfl rfl ?_
      try simp only [nrm, Act.put]
      refine tkb 1 1 [] rfl rfl rfl rfl rfl ?_
      try simp only [nrm, Act.put]
      refine stw 2 2 hF rfl rfl rfl rfl rfl rfl rfl rfl ?_
      clear hF; intro ww hF; simp only [nf] at hF
      try simp only [nrm, Act.put]
      refine stw 3 3 hF rfl rfl rfl rfl rfl rfl rfl rfl ?_
      clear hF; intro ww hF; simp only [nf] at hF
      try simp only [nrm, Act.put]
      refine tkf 4 rfl ?_
      try simp only [nrm, Act.put]
      refine tkf 5 rfl ?_
      try simp only [nrm, Act.put]
      refine tkf 6 rfl ?_
      try simp only [nrm, Act.put]
      refine dnw ?_
      go_wp2_with (first
       | go_skip
       | (refine aA rfl rfl hF ?_; clear hF; intro gg ww hF; simp only [nf] at hF)
       | (refine aB rfl rfl hF rfl ?_; clear hF; intro gg ww hF; simp only [nf] at hF)
       | (refine iL (t := 3) hF rfl rfl fun ho hx hb => ?_; refine aC (v := .int _ _) ho hb hx hF rfl rfl ?_; clear ho hx hb)
       | (refine iL hF rfl rfl fun ho hx hb => ?_; (first | refine aL ho hb hx hF rfl rfl ?_ | refine aC (v := .slice _ _ _) ho hb hx hF rfl rfl ?_ | refine aC (v := .string _) ho hb hx hF rfl rfl ?_ | refine aC (v := .bool _) ho hb hx hF rfl rfl ?_); clear ho hx hb)
       | (refine iS hF rfl rfl fun ho hx hb => ?_; (first | refine aS ho hb hx hF rfl rfl rfl rfl ?_ | refine aT (v := .int _ _) ho hb hx hF rfl rfl rfl rfl ?_ | refine aT (v := .slice _ _ _) ho hb hx hF rfl rfl rfl rfl ?_ | refine aT (v := .bool _) ho hb hx hF rfl rfl rfl rfl ?_); clear ho hx hb hF; intro ww hF; simp only [nf] at hF)
       )
      refine bodyPost_ret (results5 Tryz.results66 (res_cell 2 hF rfl rfl rfl) (res_cell 3 hF rfl rfl rfl) (.tmp _) (.tmp _) (.tmp _)) rfl ⟨_, by rw [hv.out]; rfl, ?_⟩
      rw [hv.out]
      exact StR.same (b := b) (cl := cl) HR.out hF.below
    ·
     replace HV : Hid (enterP b.cls rs s sess id.data.toList key = enter2 rs s (putL l s.now (recOf 2 s.n (untilI s.now 900) false 0 0 0 0 wt0)) (drawS s) s.n ((k : Int) + 1) (wantOf r)) := by show _ = _; rw [HV.out, if_neg (by simp), if_neg hbad]
     have h3 : drawB s = true := by cases h : drawB s; exact absurd (.inl h) hbad; rfl
     have h4 : (roomI l s.now 2 == 0) = false := by rw [beq_eq_false_iff_ne]; exact fun h => hbad (.inr h)
     obtain ⟨d3, k3, _⟩ := drew_on h3
     rw [h3, k3] at cn
     have cp2 := Lib.hid (fun W A c h => rput_walk l A c s.now (recOf 2 s.n (untilI s.now 900) false 0 0 0 0 wt0) W h (by omega))
     have hl2 := putL_len l s.now (recOf 2 s.n (untilI s.now 900) false 0 0 0 0 wt0)
     generalize putL l s.now (recOf 2 s.n (untilI s.now 900) false 0 0 0 0 wt0) = l2 at cp2 HV hl2
     generalize putC l s.now (recOf 2 s.n (untilI s.now 900) false 0 0 0 0 wt0) = e2 at cp2
     rw [sess_arr] at cp2
     clear hbad h3 k3 d3
     have cd := Lib.hid (fun W => rnonce_walk (drawS s) W (by have := HN.out; have := draw_le (s := s) (by omega); have := draw_ge (s := s) (by omega); omega))
     have cr3 := Lib.hid (fun W A c h => rroom_walk l2 A c s.now 3 W h)
     by_cases hbad : drawB (drawS s) = false ∨ roomI l2 s.now 3 = 0
     ·
      have hv : Hid (enterP b.cls rs s sess id.data.toList key = (rs, s, 0, 0, 16)) := by show _ = _; rw [HV.out, enter2, if_pos hbad]
      have hcase : drawB (drawS s) = false ∨ (drawB (drawS s) = true ∧ roomI l2 s.now 3 = 0) := by
       cases h1 : drawB (drawS s)
       ·
        exact .inl rfl
       ·
        refine .inr ⟨rfl, ?_⟩
        rcases hbad with h | h
        ·
         rw [h1] at h; cases h
        ·
         exact h
      clear hbad HV
      rcases hcase with h3 | ⟨h3, h4⟩
      ·
       rw [h3] at cd
       clear h3
       go_enter Tryz.func66, Tryz.ntmps66
       go_wp2_with (first
        | go_skip
        | (refine aA rfl rfl hF ?_; clear hF; intro gg ww hF; simp only [nf] at hF)
        | (refine aB rfl rfl hF rfl ?_; clear hF; intro gg ww hF; simp only [nf] at hF)
        | (refine iL (t := 3) hF rfl rfl fun ho hx hb => ?_; refine aC (v := .int _ _) ho hb hx hF rfl rfl ?_; clear ho hx hb)
        | (refine iL hF rfl rfl fun ho hx hb => ?_; (first | refine aL ho hb hx hF rfl rfl ?_ | refine aC (v := .slice _ _ _) ho hb hx hF rfl rfl ?_ | refine aC (v := .string _) ho hb hx hF rfl rfl ?_ | refine aC (v := .bool _) ho hb hx hF rfl rfl ?_); clear ho hx hb)
        | (refine iS hF rfl rfl fun ho hx hb => ?_; (first | refine aS ho hb hx hF rfl rfl rfl rfl ?_ | refine aT (v := .int _ _) ho hb hx hF rfl rfl rfl rfl ?_ | refine aT (v := .slice _ _ _) ho hb hx hF rfl rfl rfl rfl ?_ | refine aT (v := .bool _) ho hb hx hF rfl rfl rfl rfl ?_); clear ho hx hb hF; intro ww hF; simp only [nf] at hF)
        )
       refine (cf.out _ hF.below).mono ?_
       rintro _ w1 ⟨rfl, rfl⟩
       go_wp2_with (first
        | go_skip
        | (refine aA rfl rfl hF ?_; clear hF; intro gg ww hF; simp only [nf] at hF)
        | (refine aB rfl rfl hF rfl ?_; clear hF; intro gg ww hF; simp only [nf] at hF)
        | (refine iL (t := 3) hF rfl rfl fun ho hx hb => ?_; refine aC (v := .int _ _) ho hb hx hF rfl rfl ?_; clear ho hx hb)
        | (refine iL hF rfl rfl fun ho hx hb => ?_; (first | refine aL ho hb hx hF rfl rfl ?_ | refine aC (v := .slice _ _ _) ho hb hx hF rfl rfl ?_ | refine aC (v := .string _) ho hb hx hF rfl rfl ?_ | refine aC (v := .bool _) ho hb hx hF rfl rfl ?_); clear ho hx hb)
        | (refine iS hF rfl rfl fun ho hx hb => ?_; (first | refine aS ho hb hx hF rfl rfl rfl rfl ?_ | refine aT (v := .int _ _) ho hb hx hF rfl rfl rfl rfl ?_ | refine aT (v := .slice _ _ _) ho hb hx hF rfl rfl rfl rfl ?_ | refine aT (v := .bool _) ho hb hx hF rfl rfl rfl rfl ?_); clear ho hx hb hF; intro ww hF; simp only [nf] at hF)
        )
       refine (ch.out _ hF.data).mono ?_
       rintro _ w1 ⟨rfl, hbn⟩
       replace hF := hF.call hbn
       clear hbn
       go_wp2_with (first
        | go_skip
        | (refine aA rfl rfl hF ?_; clear hF; intro gg ww hF; simp only [nf] at hF)
        | (refine aB rfl rfl hF rfl ?_; clear hF; intro gg ww hF; simp only [nf] at hF)
        | (refine iL (t := 3) hF rfl rfl fun ho hx hb => ?_; refine aC (v := .int _ _) ho hb hx hF rfl rfl ?_; clear ho hx hb)
        | (refine iL hF rfl rfl fun ho hx hb => ?_; (first | refine aL ho hb hx hF rfl rfl ?_ | refine aC (v := .slice _ _ _) ho hb hx hF rfl rfl ?_ | refine aC (v := .string _) ho hb hx hF rfl rfl ?_ | refine aC (v := .bool _) ho hb hx hF rfl rfl ?_); clear ho hx hb)
        | (refine iS hF rfl rfl fun ho hx hb => ?_; (first | refine aS ho hb hx hF rfl rfl rfl rfl ?_ | refine aT (v := .int _ _) ho hb hx hF rfl rfl rfl rfl ?_ | refine aT (v := .slice _ _ _) ho hb hx hF rfl rfl rfl rfl ?_ | refine aT (v := .bool _) ho hb hx hF rfl rfl rfl rfl ?_); clear ho hx hb hF; intro ww hF; simp only [nf] at hF)
        )
       refine (ck.out _ hF.data).mono ?_
       rintro _ w2 ⟨A2, c2, rfl, hr2, hbn, hn2⟩
       have g2 := hF.below.size
       replace hF := hF.rows hbn hr2 hn2 (fun _ h => h)
       clear hbn hr2
       go_wp2_with (first
        | go_skip
        | (refine aA rfl rfl hF ?_; clear hF; intro gg ww hF; simp only [nf] at hF)
        | (refine aB rfl rfl hF rfl ?_; clear hF; intro gg ww hF; simp only [nf] at hF)
        | (refine iL (t := 3) hF rfl rfl fun ho hx hb => ?_; refine aC (v := .int _ _) ho hb hx hF rfl rfl ?_; clear ho hx hb)
        | (refine iL hF rfl rfl fun ho hx hb => ?_; (first | refine aL ho hb hx hF rfl rfl ?_ | refine aC (v := .slice _ _ _) ho hb hx hF rfl rfl ?_ | refine aC (v := .string _) ho hb hx hF rfl rfl ?_ | refine aC (v := .bool _) ho hb hx hF rfl rfl ?_); clear ho hx hb)
        | (refine iS hF rfl rfl fun ho hx hb => ?_; (first | refine aS ho hb hx hF rfl rfl rfl rfl ?_ | refine aT (v := .int _ _) ho hb hx hF rfl rfl rfl rfl ?_ | refine aT (v := .slice _ _ _) ho hb hx hF rfl rfl rfl rfl ?_ | refine aT (v := .bool _) ho hb hx hF rfl rfl rfl rfl ?_); clear ho hx hb hF; intro ww hF; simp only [nf] at hF)
        )
       refine (cs.out _ A2 c2 hF.data.2).mono ?_
       rintro _ w3 ⟨rfl, hbn⟩
       replace hF := hF.call hbn
       clear hbn
       go_wp2_with (first
        | go_skip
        | (refine aA rfl rfl hF ?_; clear hF; intro gg ww hF; simp only [nf] at hF)
        | (refine aB rfl rfl hF rfl ?_; clear hF; intro gg ww hF; simp only [nf] at hF)
        | (refine iL (t := 3) hF rfl rfl fun ho hx hb => ?_; refine aC (v := .int _ _) ho hb hx hF rfl rfl ?_; clear ho hx hb)
        | (refine iL hF rfl rfl fun ho hx hb => ?_; (first | refine aL ho hb hx hF rfl rfl ?_ | refine aC (v := .slice _ _ _) ho hb hx hF rfl rfl ?_ | refine aC (v := .string _) ho hb hx hF rfl rfl ?_ | refine aC (v := .bool _) ho hb hx hF rfl rfl ?_); clear ho hx hb)
        | (refine iS hF rfl rfl fun ho hx hb => ?_; (first | refine aS ho hb hx hF rfl rfl rfl rfl ?_ | refine aT (v := .int _ _) ho hb hx hF rfl rfl rfl rfl ?_ | refine aT (v := .slice _ _ _) ho hb hx hF rfl rfl rfl rfl ?_ | refine aT (v := .bool _) ho hb hx hF rfl rfl rfl rfl ?_); clear ho hx hb hF; intro ww hF; simp only [nf] at hF)
        )
       refine (cn.out _).mono ?_
       rintro _ w4 ⟨rfl, hbn⟩
       replace hF := hF.call hbn
       clear hbn
       go_wp2_with (first
        | go_skip
        | (refine aA rfl rfl hF ?_; clear hF; intro gg ww hF; simp only [nf] at hF)
        | (refine aB rfl rfl hF rfl ?_; clear hF; intro gg ww hF; simp only [nf] at hF)
        | (refine iL (t := 3) hF rfl rfl fun ho hx hb => ?_; refine aC (v := .int _ _) ho hb hx hF rfl rfl ?_; clear ho hx hb)
        | (refine iL hF rfl rfl fun ho hx hb => ?_; (first | refine aL ho hb hx hF rfl rfl ?_ | refine aC (v := .slice _ _ _) ho hb hx hF rfl rfl ?_ | refine aC (v := .string _) ho hb hx hF rfl rfl ?_ | refine aC (v := .bool _) ho hb hx hF rfl rfl ?_); clear ho hx hb)
        | (refine iS hF rfl rfl fun ho hx hb => ?_; (first | refine aS ho hb hx hF rfl rfl rfl rfl ?_ | refine aT (v := .int _ _) ho hb hx hF rfl rfl rfl rfl ?_ | refine aT (v := .slice _ _ _) ho hb hx hF rfl rfl rfl rfl ?_ | refine aT (v := .bool _) ho hb hx hF rfl rfl rfl rfl ?_); clear ho hx hb hF; intro ww hF; simp only [nf] at hF)
        )
       refine (cr2.out _ A2 c2 hF.data.2).mono ?_
       rintro _ w5 ⟨rfl, hbn⟩
       replace hF := hF.call hbn
       clear hbn
       go_wp2_with (first
        | go_skip
        | (refine aA rfl rfl hF ?_; clear hF; intro gg ww hF; simp only [nf] at hF)
        | (refine aB rfl rfl hF rfl ?_; clear hF; intro gg ww hF; simp only [nf] at hF)
        | (refine iL (t := 3) hF rfl rfl fun ho hx hb => ?_; refine aC (v := .int _ _) ho hb hx hF rfl rfl ?_; clear ho hx hb)
        | (refine iL hF rfl rfl fun ho hx hb => ?_; (first | refine aL ho hb hx hF rfl rfl ?_ | refine aC (v := .slice _ _ _) ho hb hx hF rfl rfl ?_ | refine aC (v := .string _) ho hb hx hF rfl rfl ?_ | refine aC (v := .bool _) ho hb hx hF rfl rfl ?_); clear ho hx hb)
        | (refine iS hF rfl rfl fun ho hx hb => ?_; (first | refine aS ho hb hx hF rfl rfl rfl rfl ?_ | refine aT (v := .int _ _) ho hb hx hF rfl rfl rfl rfl ?_ | refine aT (v := .slice _ _ _) ho hb hx hF rfl rfl rfl rfl ?_ | refine aT (v := .bool _) ho hb hx hF rfl rfl rfl rfl ?_); clear ho hx hb hF; intro ww hF; simp only [nf] at hF)
        )
       refine rgw [] _ hF (List.Sublist.refl _) fun hF => ?_
       refine tkf 0 rfl ?_
       try simp only [nrm, Act.put]
       refine tkf 1 rfl ?_
       try simp only [nrm, Act.put]
       refine tkc 2 1 [] (v := .int _ _) rfl rfl rfl rfl rfl ?_
       try simp only [nrm, Act.put]
       refine tkf 3 rfl ?_
       try simp only [nrm, Act.put]
       refine tkf 4 rfl ?_
       try simp only [nrm, Act.put]
       refine tkc 5 1 [] (v := .int _ _) rfl rfl rfl rfl rfl ?_
       try simp only [nrm, Act.put]
       refine rdw 6 rfl fun K hK => ?_
       go_simp
       go_at_call 87
       with_reducible refine (cl2.out _).mono ?_
       rintro _ ww ⟨rfl, hbn⟩
       replace hF := hF.call hbn
       refine hK.out _ _ (by (first | exact HoldA.past rfl | exact HoldA.of (by assumption) _ | exact HoldA.of (Fr.sub hF (by repeat (first | exact List.Sublist.slnil | apply List.Sublist.cons_cons | apply List.Sublist.cons))) _)) (fun _ => ?_)
       clear hK K; try clear hbn
       try simp only [nrm, Act.put]
       refine rdw 7 rfl fun K hK => ?_
       go_simp
       go_at_call 52
       with_reducible refine (cu2.out _).mono ?_
       rintro _ ww ⟨rfl, rfl⟩
       skip
       refine hK.out _ _ (by (first | exact HoldA.past rfl | exact HoldA.of (by assumption) _ | exact HoldA.of (Fr.sub hF (by repeat (first | exact List.Sublist.slnil | apply List.Sublist.cons_cons | apply List.Sublist.cons))) _)) (fun _ => ?_)
       clear hK K; try clear hbn
       try simp only [nrm, Act.put]
       refine tkf 8 rfl ?_
       try simp only [nrm, Act.put]
       refine rdw 9 rfl fun K hK => ?_
       go_simp
       go_at_call 86
       with_reducible refine (cp2.out _ _ _ hF.data.2).mono ?_
       rintro _ ww ⟨A3, c3, rfl, hr3, hbn, hn3⟩
       have g3 := hF.below.size
       have hF0 := hF.call hbn
       replace hF := hF.rows hbn hr3 hn3 (fun _ h => h.2)
       refine hK.out _ _ (by (first | exact HoldA.past rfl | exact HoldA.of (by assumption) _ | exact HoldA.of (Fr.sub hF (by repeat (first | exact List.Sublist.slnil | apply List.Sublist.cons_cons | apply List.Sublist.cons))) _)) (fun _ => ?_)
       clear hK K; try clear hbn
       try simp only [nrm, Act.put]
       refine tkf 10 rfl ?_
       try simp only [nrm, Act.put]
       refine tkf 11 rfl ?_
       try simp only [nrm, Act.put]
       refine tkf 12 rfl ?_
       try simp only [nrm, Act.put]
       refine tkf 13 rfl ?_
       try simp only [nrm, Act.put]
       refine dnw ?_
       clear hF0
       go_wp2_with (first
        | go_skip
        | (refine aA rfl rfl hF ?_; clear hF; intro gg ww hF; simp only [nf] at hF)
        | (refine aB rfl rfl hF rfl ?_; clear hF; intro gg ww hF; simp only [nf] at hF)
        | (refine iL (t := 3) hF rfl rfl fun ho hx hb => ?_; refine aC (v := .int _ _) ho hb hx hF rfl rfl ?_; clear ho hx hb)
        | (refine iL hF rfl rfl fun ho hx hb => ?_; (first | refine aL ho hb hx hF rfl rfl ?_ | refine aC (v := .slice _ _ _) ho hb hx hF rfl rfl ?_ | refine aC (v := .string _) ho hb hx hF rfl rfl ?_ | refine aC (v := .bool _) ho hb hx hF rfl rfl ?_); clear ho hx hb)
        | (refine iS hF rfl rfl fun ho hx hb => ?_; (first | refine aS ho hb hx hF rfl rfl rfl rfl ?_ | refine aT (v := .int _ _) ho hb hx hF rfl rfl rfl rfl ?_ | refine aT (v := .slice _ _ _) ho hb hx hF rfl rfl rfl rfl ?_ | refine aT (v := .bool _) ho hb hx hF rfl rfl rfl rfl ?_); clear ho hx hb hF; intro ww hF; simp only [nf] at hF)
        )
       refine (cd.out _).mono ?_
       rintro _ w4 ⟨rfl, hbn⟩
       replace hF := hF.call hbn
       clear hbn
       go_wp2_with (first
        | go_skip
        | (refine aA rfl rfl hF ?_; clear hF; intro gg ww hF; simp only [nf] at hF)
        | (refine aB rfl rfl hF rfl ?_; clear hF; intro gg ww hF; simp only [nf] at hF)
        | (refine iL (t := 3) hF rfl rfl fun ho hx hb => ?_; refine aC (v := .int _ _) ho hb hx hF rfl rfl ?_; clear ho hx hb)
        | (refine iL hF rfl rfl fun ho hx hb => ?_; (first | refine aL ho hb hx hF rfl rfl ?_ | refine aC (v := .slice _ _ _) ho hb hx hF rfl rfl ?_ | refine aC (v := .string _) ho hb hx hF rfl rfl ?_ | refine aC (v := .bool _) ho hb hx hF rfl rfl ?_); clear ho hx hb)
        | (refine iS hF rfl rfl fun ho hx hb => ?_; (first | refine aS ho hb hx hF rfl rfl rfl rfl ?_ | refine aT (v := .int _ _) ho hb hx hF rfl rfl rfl rfl ?_ | refine aT (v := .slice _ _ _) ho hb hx hF rfl rfl rfl rfl ?_ | refine aT (v := .bool _) ho hb hx hF rfl rfl rfl rfl ?_); clear ho hx hb hF; intro ww hF; simp only [nf] at hF)
        )
       refine rgw [] [_, _] hF (.cons_cons _ (.cons_cons _ (.cons _ (.cons _ (.cons _ (.cons _ (.cons _ (.cons _ .slnil)))))))) fun hF => ?_
       refine tkb 0 0 [] rfl rfl rfl rfl rfl ?_
       try simp only [nrm, Act.put]
       refine tkb 1 1 [] rfl rfl rfl rfl rfl ?_
       try simp only [nrm, Act.put]
       refine stw 2 2 hF rfl rfl rfl rfl rfl rfl rfl rfl ?_
       clear hF; intro ww hF; simp only [nf] at hF
       try simp only [nrm, Act.put]
       refine stw 3 3 hF rfl rfl rfl rfl rfl rfl rfl rfl ?_
       clear hF; intro ww hF; simp only [nf] at hF
       try simp only [nrm, Act.put]
       refine tkf 4 rfl ?_
       try simp only [nrm, Act.put]
       refine tkf 5 rfl ?_
       try simp only [nrm, Act.put]
       refine tkf 6 rfl ?_
       try simp only [nrm, Act.put]
       refine dnw ?_
       go_wp2_with (first
        | go_skip
        | (refine aA rfl rfl hF ?_; clear hF; intro gg ww hF; simp only [nf] at hF)
        | (refine aB rfl rfl hF rfl ?_; clear hF; intro gg ww hF; simp only [nf] at hF)
        | (refine iL (t := 3) hF rfl rfl fun ho hx hb => ?_; refine aC (v := .int _ _) ho hb hx hF rfl rfl ?_; clear ho hx hb)
        | (refine iL hF rfl rfl fun ho hx hb => ?_; (first | refine aL ho hb hx hF rfl rfl ?_ | refine aC (v := .slice _ _ _) ho hb hx hF rfl rfl ?_ | refine aC (v := .string _) ho hb hx hF rfl rfl ?_ | refine aC (v := .bool _) ho hb hx hF rfl rfl ?_); clear ho hx hb)
        | (refine iS hF rfl rfl fun ho hx hb => ?_; (first | refine aS ho hb hx hF rfl rfl rfl rfl ?_ | refine aT (v := .int _ _) ho hb hx hF rfl rfl rfl rfl ?_ | refine aT (v := .slice _ _ _) ho hb hx hF rfl rfl rfl rfl ?_ | refine aT (v := .bool _) ho hb hx hF rfl rfl rfl rfl ?_); clear ho hx hb hF; intro ww hF; simp only [nf] at hF)
        )
       refine bodyPost_ret (results5 Tryz.results66 (res_cell 2 hF rfl rfl rfl) (res_cell 3 hF rfl rfl rfl) (.tmp _) (.tmp _) (.tmp _)) rfl ⟨_, by rw [hv.out]; rfl, ?_⟩
       rw [hv.out]
       exact StR.same (b := b) (cl := cl) HR.out hF.below
      ·
       rw [h3] at cd
       rw [h4] at cr3
       clear h3 h4
       go_enter Tryz.func66, Tryz.ntmps66
       go_wp2_with (first
        | go_skip
        | (refine aA rfl rfl hF ?_; clear hF; intro gg ww hF; simp only [nf] at hF)
        | (refine aB rfl rfl hF rfl ?_; clear hF; intro gg ww hF; simp only [nf] at hF)
        | (refine iL (t := 3) hF rfl rfl fun ho hx hb => ?_; refine aC (v := .int _ _) ho hb hx hF rfl rfl ?_; clear ho hx hb)
        | (refine iL hF rfl rfl fun ho hx hb => ?_; (first | refine aL ho hb hx hF rfl rfl ?_ | refine aC (v := .slice _ _ _) ho hb hx hF rfl rfl ?_ | refine aC (v := .string _) ho hb hx hF rfl rfl ?_ | refine aC (v := .bool _) ho hb hx hF rfl rfl ?_); clear ho hx hb)
        | (refine iS hF rfl rfl fun ho hx hb => ?_; (first | refine aS ho hb hx hF rfl rfl rfl rfl ?_ | refine aT (v := .int _ _) ho hb hx hF rfl rfl rfl rfl ?_ | refine aT (v := .slice _ _ _) ho hb hx hF rfl rfl rfl rfl ?_ | refine aT (v := .bool _) ho hb hx hF rfl rfl rfl rfl ?_); clear ho hx hb hF; intro ww hF; simp only [nf] at hF)
        )
       refine (cf.out _ hF.below).mono ?_
       rintro _ w1 ⟨rfl, rfl⟩
       go_wp2_with (first
        | go_skip
        | (refine aA rfl rfl hF ?_; clear hF; intro gg ww hF; simp only [nf] at hF)
        | (refine aB rfl rfl hF rfl ?_; clear hF; intro gg ww hF; simp only [nf] at hF)
        | (refine iL (t := 3) hF rfl rfl fun ho hx hb => ?_; refine aC (v := .int _ _) ho hb hx hF rfl rfl ?_; clear ho hx hb)
        | (refine iL hF rfl rfl fun ho hx hb => ?_; (first | refine aL ho hb hx hF rfl rfl ?_ | refine aC (v := .slice _ _ _) ho hb hx hF rfl rfl ?_ | refine aC (v := .string _) ho hb hx hF rfl rfl ?_ | refine aC (v := .bool _) ho hb hx hF rfl rfl ?_); clear ho hx hb)
        | (refine iS hF rfl rfl fun ho hx hb => ?_; (first | refine aS ho hb hx hF rfl rfl rfl rfl ?_ | refine aT (v := .int _ _) ho hb hx hF rfl rfl rfl rfl ?_ | refine aT (v := .slice _ _ _) ho hb hx hF rfl rfl rfl rfl ?_ | refine aT (v := .bool _) ho hb hx hF rfl rfl rfl rfl ?_); clear ho hx hb hF; intro ww hF; simp only [nf] at hF)
        )
       refine (ch.out _ hF.data).mono ?_
       rintro _ w1 ⟨rfl, hbn⟩
       replace hF := hF.call hbn
       clear hbn
       go_wp2_with (first
        | go_skip
        | (refine aA rfl rfl hF ?_; clear hF; intro gg ww hF; simp only [nf] at hF)
        | (refine aB rfl rfl hF rfl ?_; clear hF; intro gg ww hF; simp only [nf] at hF)
        | (refine iL (t := 3) hF rfl rfl fun ho hx hb => ?_; refine aC (v := .int _ _) ho hb hx hF rfl rfl ?_; clear ho hx hb)
        | (refine iL hF rfl rfl fun ho hx hb => ?_; (first | refine aL ho hb hx hF rfl rfl ?_ | refine aC (v := .slice _ _ _) ho hb hx hF rfl rfl ?_ | refine aC (v := .string _) ho hb hx hF rfl rfl ?_ | refine aC (v := .bool _) ho hb hx hF rfl rfl ?_); clear ho hx hb)
        | (refine iS hF rfl rfl fun ho hx hb => ?_; (first | refine aS ho hb hx hF rfl rfl rfl rfl ?_ | refine aT (v := .int _ _) ho hb hx hF rfl rfl rfl rfl ?_ | refine aT (v := .slice _ _ _) ho hb hx hF rfl rfl rfl rfl ?_ | refine aT (v := .bool _) ho hb hx hF rfl rfl rfl rfl ?_); clear ho hx hb hF; intro ww hF; simp only [nf] at hF)
        )
       refine (ck.out _ hF.data).mono ?_
       rintro _ w2 ⟨A2, c2, rfl, hr2, hbn, hn2⟩
       have g2 := hF.below.size
       replace hF := hF.rows hbn hr2 hn2 (fun _ h => h)
       clear hbn hr2
       go_wp2_with (first
        | go_skip
        | (refine aA rfl rfl hF ?_; clear hF; intro gg ww hF; simp only [nf] at hF)
        | (refine aB rfl rfl hF rfl ?_; clear hF; intro gg ww hF; simp only [nf] at hF)
        | (refine iL (t := 3) hF rfl rfl fun ho hx hb => ?_; refine aC (v := .int _ _) ho hb hx hF rfl rfl ?_; clear ho hx hb)
        | (refine iL hF rfl rfl fun ho hx hb => ?_; (first | refine aL ho hb hx hF rfl rfl ?_ | refine aC (v := .slice _ _ _) ho hb hx hF rfl rfl ?_ | refine aC (v := .string _) ho hb hx hF rfl rfl ?_ | refine aC (v := .bool _) ho hb hx hF rfl rfl ?_); clear ho hx hb)
        | (refine iS hF rfl rfl fun ho hx hb => ?_; (first | refine aS ho hb hx hF rfl rfl rfl rfl ?_ | refine aT (v := .int _ _) ho hb hx hF rfl rfl rfl rfl ?_ | refine aT (v := .slice _ _ _) ho hb hx hF rfl rfl rfl rfl ?_ | refine aT (v := .bool _) ho hb hx hF rfl rfl rfl rfl ?_); clear ho hx hb hF; intro ww hF; simp only [nf] at hF)
        )
       refine (cs.out _ A2 c2 hF.data.2).mono ?_
       rintro _ w3 ⟨rfl, hbn⟩
       replace hF := hF.call hbn
       clear hbn
       go_wp2_with (first
        | go_skip
        | (refine aA rfl rfl hF ?_; clear hF; intro gg ww hF; simp only [nf] at hF)
        | (refine aB rfl rfl hF rfl ?_; clear hF; intro gg ww hF; simp only [nf] at hF)
        | (refine iL (t := 3) hF rfl rfl fun ho hx hb => ?_; refine aC (v := .int _ _) ho hb hx hF rfl rfl ?_; clear ho hx hb)
        | (refine iL hF rfl rfl fun ho hx hb => ?_; (first | refine aL ho hb hx hF rfl rfl ?_ | refine aC (v := .slice _ _ _) ho hb hx hF rfl rfl ?_ | refine aC (v := .string _) ho hb hx hF rfl rfl ?_ | refine aC (v := .bool _) ho hb hx hF rfl rfl ?_); clear ho hx hb)
        | (refine iS hF rfl rfl fun ho hx hb => ?_; (first | refine aS ho hb hx hF rfl rfl rfl rfl ?_ | refine aT (v := .int _ _) ho hb hx hF rfl rfl rfl rfl ?_ | refine aT (v := .slice _ _ _) ho hb hx hF rfl rfl rfl rfl ?_ | refine aT (v := .bool _) ho hb hx hF rfl rfl rfl rfl ?_); clear ho hx hb hF; intro ww hF; simp only [nf] at hF)
        )
       refine (cn.out _).mono ?_
       rintro _ w4 ⟨rfl, hbn⟩
       replace hF := hF.call hbn
       clear hbn
       go_wp2_with (first
        | go_skip
        | (refine aA rfl rfl hF ?_; clear hF; intro gg ww hF; simp only [nf] at hF)
        | (refine aB rfl rfl hF rfl ?_; clear hF; intro gg ww hF; simp only [nf] at hF)
        | (refine iL (t := 3) hF rfl rfl fun ho hx hb => ?_; refine aC (v := .int _ _) ho hb hx hF rfl rfl ?_; clear ho hx hb)
        | (refine iL hF rfl rfl fun ho hx hb => ?_; (first | refine aL ho hb hx hF rfl rfl ?_ | refine aC (v := .slice _ _ _) ho hb hx hF rfl rfl ?_ | refine aC (v := .string _) ho hb hx hF rfl rfl ?_ | refine aC (v := .bool _) ho hb hx hF rfl rfl ?_); clear ho hx hb)
        | (refine iS hF rfl rfl fun ho hx hb => ?_; (first | refine aS ho hb hx hF rfl rfl rfl rfl ?_ | refine aT (v := .int _ _) ho hb hx hF rfl rfl rfl rfl ?_ | refine aT (v := .slice _ _ _) ho hb hx hF rfl rfl rfl rfl ?_ | refine aT (v := .bool _) ho hb hx hF rfl rfl rfl rfl ?_); clear ho hx hb hF; intro ww hF; simp only [nf] at hF)
        )
       refine (cr2.out _ A2 c2 hF.data.2).mono ?_
       rintro _ w5 ⟨rfl, hbn⟩
       replace hF := hF.call hbn
       clear hbn
       go_wp2_with (first
        | go_skip
        | (refine aA rfl rfl hF ?_; clear hF; intro gg ww hF; simp only [nf] at hF)
        | (refine aB rfl rfl hF rfl ?_; clear hF; intro gg ww hF; simp only [nf] at hF)
        | (refine iL (t := 3) hF rfl rfl fun ho hx hb => ?_; refine aC (v := .int _ _) ho hb hx hF rfl rfl ?_; clear ho hx hb)
        | (refine iL hF rfl rfl fun ho hx hb => ?_; (first | refine aL ho hb hx hF rfl rfl ?_ | refine aC (v := .slice _ _ _) ho hb hx hF rfl rfl ?_ | refine aC (v := .string _) ho hb hx hF rfl rfl ?_ | refine aC (v := .bool _) ho hb hx hF rfl rfl ?_); clear ho hx hb)
        | (refine iS hF rfl rfl fun ho hx hb => ?_; (first | refine aS ho hb hx hF rfl rfl rfl rfl ?_ | refine aT (v := .int _ _) ho hb hx hF rfl rfl rfl rfl ?_ | refine aT (v := .slice _ _ _) ho hb hx hF rfl rfl rfl rfl ?_ | refine aT (v := .bool _) ho hb hx hF rfl rfl rfl rfl ?_); clear ho hx hb hF; intro ww hF; simp only [nf] at hF)
        )
       refine rgw [] _ hF (List.Sublist.refl _) fun hF => ?_
       refine tkf 0 rfl ?_
       try simp only [nrm, Act.put]
       refine tkf 1 rfl ?_
       try simp only [nrm, Act.put]
       refine tkc 2 1 [] (v := .int _ _) rfl rfl rfl rfl rfl ?_
       try simp only [nrm, Act.put]
       refine tkf 3 rfl ?_
       try simp only [nrm, Act.put]
       refine tkf 4 rfl ?_
       try simp only [nrm, Act.put]
       refine tkc 5 1 [] (v := .int _ _) rfl rfl rfl rfl rfl ?_
       try simp only [nrm, Act.put]
       refine rdw 6 rfl fun K hK => ?_
       go_simp
       go_at_call 87
       with_reducible refine (cl2.out _).mono ?_
       rintro _ ww ⟨rfl, hbn⟩
       replace hF := hF.call hbn
       refine hK.out _ _ (by (first | exact HoldA.past rfl | exact HoldA.of (by assumption) _ | exact HoldA.of (Fr.sub hF (by repeat (first | exact List.Sublist.slnil | apply List.Sublist.cons_cons | apply List.Sublist.cons))) _)) (fun _ => ?_)
       clear hK K; try clear hbn
       try simp only [nrm, Act.put]
       refine rdw 7 rfl fun K hK => ?_
       go_simp
       go_at_call 52
       with_reducible refine (cu2.out _).mono ?_
       rintro _ ww ⟨rfl, rfl⟩
       skip
       refine hK.out _ _ (by (first | exact HoldA.past rfl | exact HoldA.of (by assumption) _ | exact HoldA.of (Fr.sub hF (by repeat (first | exact List.Sublist.slnil | apply List.Sublist.cons_cons | apply List.Sublist.cons))) _)) (fun _ => ?_)
       clear hK K; try clear hbn
       try simp only [nrm, Act.put]
       refine tkf 8 rfl ?_
       try simp only [nrm, Act.put]
       refine rdw 9 rfl fun K hK => ?_
       go_simp
       go_at_call 86
       with_reducible refine (cp2.out _ _ _ hF.data.2).mono ?_
       rintro _ ww ⟨A3, c3, rfl, hr3, hbn, hn3⟩
       have g3 := hF.below.size
       have hF0 := hF.call hbn
       replace hF := hF.rows hbn hr3 hn3 (fun _ h => h.2)
       refine hK.out _ _ (by (first | exact HoldA.past rfl | exact HoldA.of (by assumption) _ | exact HoldA.of (Fr.sub hF (by repeat (first | exact List.Sublist.slnil | apply List.Sublist.cons_cons | apply List.Sublist.cons))) _)) (fun _ => ?_)
       clear hK K; try clear hbn
       try simp only [nrm, Act.put]
       refine tkf 10 rfl ?_
       try simp only [nrm, Act.put]
       refine tkf 11 rfl ?_
       try simp only [nrm, Act.put]
       refine tkf 12 rfl ?_
       try simp only [nrm, Act.put]
       refine tkf 13 rfl ?_
       try simp only [nrm, Act.put]
       refine dnw ?_
       clear hF0
       go_wp2_with (first
        | go_skip
        | (refine aA rfl rfl hF ?_; clear hF; intro gg ww hF; simp only [nf] at hF)
        | (refine aB rfl rfl hF rfl ?_; clear hF; intro gg ww hF; simp only [nf] at hF)
        | (refine iL (t := 3) hF rfl rfl fun ho hx hb => ?_; refine aC (v := .int _ _) ho hb hx hF rfl rfl ?_; clear ho hx hb)
        | (refine iL hF rfl rfl fun ho hx hb => ?_; (first | refine aL ho hb hx hF rfl rfl ?_ | refine aC (v := .slice _ _ _) ho hb hx hF rfl rfl ?_ | refine aC (v := .string _) ho hb hx hF rfl rfl ?_ | refine aC (v := .bool _) ho hb hx hF rfl rfl ?_); clear ho hx hb)
        | (refine iS hF rfl rfl fun ho hx hb => ?_; (first | refine aS ho hb hx hF rfl rfl rfl rfl ?_ | refine aT (v := .int _ _) ho hb hx hF rfl rfl rfl rfl ?_ | refine aT (v := .slice _ _ _) ho hb hx hF rfl rfl rfl rfl ?_ | refine aT (v := .bool _) ho hb hx hF rfl rfl rfl rfl ?_); clear ho hx hb hF; intro ww hF; simp only [nf] at hF)
        )
       refine (cd.out _).mono ?_
       rintro _ w4 ⟨rfl, hbn⟩
       replace hF := hF.call hbn
       clear hbn
       go_wp2_with (first
        | go_skip
        | (refine aA rfl rfl hF ?_; clear hF; intro gg ww hF; simp only [nf] at hF)
        | (refine aB rfl rfl hF rfl ?_; clear hF; intro gg ww hF; simp only [nf] at hF)
        | (refine iL (t := 3) hF rfl rfl fun ho hx hb => ?_; refine aC (v := .int _ _) ho hb hx hF rfl rfl ?_; clear ho hx hb)
        | (refine iL hF rfl rfl fun ho hx hb => ?_; (first | refine aL ho hb hx hF rfl rfl ?_ | refine aC (v := .slice _ _ _) ho hb hx hF rfl rfl ?_ | refine aC (v := .string _) ho hb hx hF rfl rfl ?_ | refine aC (v := .bool _) ho hb hx hF rfl rfl ?_); clear ho hx hb)
        | (refine iS hF rfl rfl fun ho hx hb => ?_; (first | refine aS ho hb hx hF rfl rfl rfl rfl ?_ | refine aT (v := .int _ _) ho hb hx hF rfl rfl rfl rfl ?_ | refine aT (v := .slice _ _ _) ho hb hx hF rfl rfl rfl rfl ?_ | refine aT (v := .bool _) ho hb hx hF rfl rfl rfl rfl ?_); clear ho hx hb hF; intro ww hF; simp only [nf] at hF)
        )
       refine (cr3.out _ A3 c3 hF.data.2).mono ?_
       rintro _ w5 ⟨rfl, hbn⟩
       replace hF := hF.call hbn
       clear hbn
       go_wp2_with (first
        | go_skip
        | (refine aA rfl rfl hF ?_; clear hF; intro gg ww hF; simp only [nf] at hF)
        | (refine aB rfl rfl hF rfl ?_; clear hF; intro gg ww hF; simp only [nf] at hF)
        | (refine iL (t := 3) hF rfl rfl fun ho hx hb => ?_; refine aC (v := .int _ _) ho hb hx hF rfl rfl ?_; clear ho hx hb)
        | (refine iL hF rfl rfl fun ho hx hb => ?_; (first | refine aL ho hb hx hF rfl rfl ?_ | refine aC (v := .slice _ _ _) ho hb hx hF rfl rfl ?_ | refine aC (v := .string _) ho hb hx hF rfl rfl ?_ | refine aC (v := .bool _) ho hb hx hF rfl rfl ?_); clear ho hx hb)
        | (refine iS hF rfl rfl fun ho hx hb => ?_; (first | refine aS ho hb hx hF rfl rfl rfl rfl ?_ | refine aT (v := .int _ _) ho hb hx hF rfl rfl rfl rfl ?_ | refine aT (v := .slice _ _ _) ho hb hx hF rfl rfl rfl rfl ?_ | refine aT (v := .bool _) ho hb hx hF rfl rfl rfl rfl ?_); clear ho hx hb hF; intro ww hF; simp only [nf] at hF)
        )
       refine rgw [] [_, _] hF (.cons_cons _ (.cons_cons _ (.cons _ (.cons _ (.cons _ (.cons _ (.cons _ (.cons _ .slnil)))))))) fun hF => ?_
       refine tkb 0 0 [] rfl rfl rfl rfl rfl ?_
       try simp only [nrm, Act.put]
       refine tkb 1 1 [] rfl rfl rfl rfl rfl ?_
       try simp only [nrm, Act.put]
       refine stw 2 2 hF rfl rfl rfl rfl rfl rfl rfl rfl ?_
       clear hF; intro ww hF; simp only [nf] at hF
       try simp only [nrm, Act.put]
       refine stw 3 3 hF rfl rfl rfl rfl rfl rfl rfl rfl ?_
       clear hF; intro ww hF; simp only [nf] at hF
       try simp only [nrm, Act.put]
       refine tkf 4 rfl ?_
       try simp only [nrm, Act.put]
       refine tkf 5 rfl ?_
       try simp only [nrm, Act.put]
       refine tkf 6 rfl ?_
       try simp only [nrm, Act.put]
       refine dnw ?_
       go_wp2_with (first
        | go_skip
        | (refine aA rfl rfl hF ?_; clear hF; intro gg ww hF; simp only [nf] at hF)
        | (refine aB rfl rfl hF rfl ?_; clear hF; intro gg ww hF; simp only [nf] at hF)
        | (refine iL (t := 3) hF rfl rfl fun ho hx hb => ?_; refine aC (v := .int _ _) ho hb hx hF rfl rfl ?_; clear ho hx hb)
        | (refine iL hF rfl rfl fun ho hx hb => ?_; (first | refine aL ho hb hx hF rfl rfl ?_ | refine aC (v := .slice _ _ _) ho hb hx hF rfl rfl ?_ | refine aC (v := .string _) ho hb hx hF rfl rfl ?_ | refine aC (v := .bool _) ho hb hx hF rfl rfl ?_); clear ho hx hb)
        | (refine iS hF rfl rfl fun ho hx hb => ?_; (first | refine aS ho hb hx hF rfl rfl rfl rfl ?_ | refine aT (v := .int _ _) ho hb hx hF rfl rfl rfl rfl ?_ | refine aT (v := .slice _ _ _) ho hb hx hF rfl rfl rfl rfl ?_ | refine aT (v := .bool _) ho hb hx hF rfl rfl rfl rfl ?_); clear ho hx hb hF; intro ww hF; simp only [nf] at hF)
        )
       refine bodyPost_ret (results5 Tryz.results66 (res_cell 2 hF rfl rfl rfl) (res_cell 3 hF rfl rfl rfl) (.tmp _) (.tmp _) (.tmp _)) rfl ⟨_, by rw [hv.out]; rfl, ?_⟩
       rw [hv.out]
       exact StR.same (b := b) (cl := cl) HR.out hF.below
     ·
      have hv : Hid (enterP b.cls rs s sess id.data.toList key = (putL l2 s.now (recOf 3 ((drawS s)).n (untilI s.now 120) false ((k : Int) + 1) 0 s.n 0 (wantOf r)), drawS (drawS s), s.n, ((drawS s)).n, 0)) := by show _ = _; rw [HV.out, enter2, if_neg hbad]
      have h3 : drawB (drawS s) = true := by cases h : drawB (drawS s); exact absurd (.inl h) hbad; rfl
      have h4 : (roomI l2 s.now 3 == 0) = false := by rw [beq_eq_false_iff_ne]; exact fun h => hbad (.inr h)
      obtain ⟨d3, k3, _⟩ := drew_on h3
      rw [h3, k3] at cd
      have cp := Lib.hid (fun W A c h => rput_walk l2 A c s.now (recOf 3 ((drawS s)).n (untilI s.now 120) false ((k : Int) + 1) 0 s.n 0 (wantOf r)) W h (by omega))
      generalize putL l2 s.now (recOf 3 ((drawS s)).n (untilI s.now 120) false ((k : Int) + 1) 0 s.n 0 (wantOf r)) = L1 at cp hv
      generalize putC l2 s.now (recOf 3 ((drawS s)).n (untilI s.now 120) false ((k : Int) + 1) 0 s.n 0 (wantOf r)) = e1 at cp
      rw [door_arr] at cp
      clear hbad h3 k3 d3 HV
      go_enter Tryz.func66, Tryz.ntmps66
      go_wp2_with (first
       | go_skip
       | (refine aA rfl rfl hF ?_; clear hF; intro gg ww hF; simp only [nf] at hF)
       | (refine aB rfl rfl hF rfl ?_; clear hF; intro gg ww hF; simp only [nf] at hF)
       | (refine iL (t := 3) hF rfl rfl fun ho hx hb => ?_; refine aC (v := .int _ _) ho hb hx hF rfl rfl ?_; clear ho hx hb)
       | (refine iL hF rfl rfl fun ho hx hb => ?_; (first | refine aL ho hb hx hF rfl rfl ?_ | refine aC (v := .slice _ _ _) ho hb hx hF rfl rfl ?_ | refine aC (v := .string _) ho hb hx hF rfl rfl ?_ | refine aC (v := .bool _) ho hb hx hF rfl rfl ?_); clear ho hx hb)
       | (refine iS hF rfl rfl fun ho hx hb => ?_; (first | refine aS ho hb hx hF rfl rfl rfl rfl ?_ | refine aT (v := .int _ _) ho hb hx hF rfl rfl rfl rfl ?_ | refine aT (v := .slice _ _ _) ho hb hx hF rfl rfl rfl rfl ?_ | refine aT (v := .bool _) ho hb hx hF rfl rfl rfl rfl ?_); clear ho hx hb hF; intro ww hF; simp only [nf] at hF)
       )
      refine (cf.out _ hF.below).mono ?_
      rintro _ w1 ⟨rfl, rfl⟩
      go_wp2_with (first
       | go_skip
       | (refine aA rfl rfl hF ?_; clear hF; intro gg ww hF; simp only [nf] at hF)
       | (refine aB rfl rfl hF rfl ?_; clear hF; intro gg ww hF; simp only [nf] at hF)
       | (refine iL (t := 3) hF rfl rfl fun ho hx hb => ?_; refine aC (v := .int _ _) ho hb hx hF rfl rfl ?_; clear ho hx hb)
       | (refine iL hF rfl rfl fun ho hx hb => ?_; (first | refine aL ho hb hx hF rfl rfl ?_ | refine aC (v := .slice _ _ _) ho hb hx hF rfl rfl ?_ | refine aC (v := .string _) ho hb hx hF rfl rfl ?_ | refine aC (v := .bool _) ho hb hx hF rfl rfl ?_); clear ho hx hb)
       | (refine iS hF rfl rfl fun ho hx hb => ?_; (first | refine aS ho hb hx hF rfl rfl rfl rfl ?_ | refine aT (v := .int _ _) ho hb hx hF rfl rfl rfl rfl ?_ | refine aT (v := .slice _ _ _) ho hb hx hF rfl rfl rfl rfl ?_ | refine aT (v := .bool _) ho hb hx hF rfl rfl rfl rfl ?_); clear ho hx hb hF; intro ww hF; simp only [nf] at hF)
       )
      refine (ch.out _ hF.data).mono ?_
      rintro _ w1 ⟨rfl, hbn⟩
      replace hF := hF.call hbn
      clear hbn
      go_wp2_with (first
       | go_skip
       | (refine aA rfl rfl hF ?_; clear hF; intro gg ww hF; simp only [nf] at hF)
       | (refine aB rfl rfl hF rfl ?_; clear hF; intro gg ww hF; simp only [nf] at hF)
       | (refine iL (t := 3) hF rfl rfl fun ho hx hb => ?_; refine aC (v := .int _ _) ho hb hx hF rfl rfl ?_; clear ho hx hb)
       | (refine iL hF rfl rfl fun ho hx hb => ?_; (first | refine aL ho hb hx hF rfl rfl ?_ | refine aC (v := .slice _ _ _) ho hb hx hF rfl rfl ?_ | refine aC (v := .string _) ho hb hx hF rfl rfl ?_ | refine aC (v := .bool _) ho hb hx hF rfl rfl ?_); clear ho hx hb)
       | (refine iS hF rfl rfl fun ho hx hb => ?_; (first | refine aS ho hb hx hF rfl rfl rfl rfl ?_ | refine aT (v := .int _ _) ho hb hx hF rfl rfl rfl rfl ?_ | refine aT (v := .slice _ _ _) ho hb hx hF rfl rfl rfl rfl ?_ | refine aT (v := .bool _) ho hb hx hF rfl rfl rfl rfl ?_); clear ho hx hb hF; intro ww hF; simp only [nf] at hF)
       )
      refine (ck.out _ hF.data).mono ?_
      rintro _ w2 ⟨A2, c2, rfl, hr2, hbn, hn2⟩
      have g2 := hF.below.size
      replace hF := hF.rows hbn hr2 hn2 (fun _ h => h)
      clear hbn hr2
      go_wp2_with (first
       | go_skip
       | (refine aA rfl rfl hF ?_; clear hF; intro gg ww hF; simp only [nf] at hF)
       | (refine aB rfl rfl hF rfl ?_; clear hF; intro gg ww hF; simp only [nf] at hF)
       | (refine iL (t := 3) hF rfl rfl fun ho hx hb => ?_; refine aC (v := .int _ _) ho hb hx hF rfl rfl ?_; clear ho hx hb)
       | (refine iL hF rfl rfl fun ho hx hb => ?_; (first | refine aL ho hb hx hF rfl rfl ?_ | refine aC (v := .slice _ _ _) ho hb hx hF rfl rfl ?_ | refine aC (v := .string _) ho hb hx hF rfl rfl ?_ | refine aC (v := .bool _) ho hb hx hF rfl rfl ?_); clear ho hx hb)
       | (refine iS hF rfl rfl fun ho hx hb => ?_; (first | refine aS ho hb hx hF rfl rfl rfl rfl ?_ | refine aT (v := .int _ _) ho hb hx hF rfl rfl rfl rfl ?_ | refine aT (v := .slice _ _ _) ho hb hx hF rfl rfl rfl rfl ?_ | refine aT (v := .bool _) ho hb hx hF rfl rfl rfl rfl ?_); clear ho hx hb hF; intro ww hF; simp only [nf] at hF)
       )
      refine (cs.out _ A2 c2 hF.data.2).mono ?_
      rintro _ w3 ⟨rfl, hbn⟩
      replace hF := hF.call hbn
      clear hbn
      go_wp2_with (first
       | go_skip
       | (refine aA rfl rfl hF ?_; clear hF; intro gg ww hF; simp only [nf] at hF)
       | (refine aB rfl rfl hF rfl ?_; clear hF; intro gg ww hF; simp only [nf] at hF)
       | (refine iL (t := 3) hF rfl rfl fun ho hx hb => ?_; refine aC (v := .int _ _) ho hb hx hF rfl rfl ?_; clear ho hx hb)
       | (refine iL hF rfl rfl fun ho hx hb => ?_; (first | refine aL ho hb hx hF rfl rfl ?_ | refine aC (v := .slice _ _ _) ho hb hx hF rfl rfl ?_ | refine aC (v := .string _) ho hb hx hF rfl rfl ?_ | refine aC (v := .bool _) ho hb hx hF rfl rfl ?_); clear ho hx hb)
       | (refine iS hF rfl rfl fun ho hx hb => ?_; (first | refine aS ho hb hx hF rfl rfl rfl rfl ?_ | refine aT (v := .int _ _) ho hb hx hF rfl rfl rfl rfl ?_ | refine aT (v := .slice _ _ _) ho hb hx hF rfl rfl rfl rfl ?_ | refine aT (v := .bool _) ho hb hx hF rfl rfl rfl rfl ?_); clear ho hx hb hF; intro ww hF; simp only [nf] at hF)
       )
      refine (cn.out _).mono ?_
      rintro _ w4 ⟨rfl, hbn⟩
      replace hF := hF.call hbn
      clear hbn
      go_wp2_with (first
       | go_skip
       | (refine aA rfl rfl hF ?_; clear hF; intro gg ww hF; simp only [nf] at hF)
       | (refine aB rfl rfl hF rfl ?_; clear hF; intro gg ww hF; simp only [nf] at hF)
       | (refine iL (t := 3) hF rfl rfl fun ho hx hb => ?_; refine aC (v := .int _ _) ho hb hx hF rfl rfl ?_; clear ho hx hb)
       | (refine iL hF rfl rfl fun ho hx hb => ?_; (first | refine aL ho hb hx hF rfl rfl ?_ | refine aC (v := .slice _ _ _) ho hb hx hF rfl rfl ?_ | refine aC (v := .string _) ho hb hx hF rfl rfl ?_ | refine aC (v := .bool _) ho hb hx hF rfl rfl ?_); clear ho hx hb)
       | (refine iS hF rfl rfl fun ho hx hb => ?_; (first | refine aS ho hb hx hF rfl rfl rfl rfl ?_ | refine aT (v := .int _ _) ho hb hx hF rfl rfl rfl rfl ?_ | refine aT (v := .slice _ _ _) ho hb hx hF rfl rfl rfl rfl ?_ | refine aT (v := .bool _) ho hb hx hF rfl rfl rfl rfl ?_); clear ho hx hb hF; intro ww hF; simp only [nf] at hF)
       )
      refine (cr2.out _ A2 c2 hF.data.2).mono ?_
      rintro _ w5 ⟨rfl, hbn⟩
      replace hF := hF.call hbn
      clear hbn
      go_wp2_with (first
       | go_skip
       | (refine aA rfl rfl hF ?_; clear hF; intro gg ww hF; simp only [nf] at hF)
       | (refine aB rfl rfl hF rfl ?_; clear hF; intro gg ww hF; simp only [nf] at hF)
       | (refine iL (t := 3) hF rfl rfl fun ho hx hb => ?_; refine aC (v := .int _ _) ho hb hx hF rfl rfl ?_; clear ho hx hb)
       | (refine iL hF rfl rfl fun ho hx hb => ?_; (first | refine aL ho hb hx hF rfl rfl ?_ | refine aC (v := .slice _ _ _) ho hb hx hF rfl rfl ?_ | refine aC (v := .string _) ho hb hx hF rfl rfl ?_ | refine aC (v := .bool _) ho hb hx hF rfl rfl ?_); clear ho hx hb)
       | (refine iS hF rfl rfl fun ho hx hb => ?_; (first | refine aS ho hb hx hF rfl rfl rfl rfl ?_ | refine aT (v := .int _ _) ho hb hx hF rfl rfl rfl rfl ?_ | refine aT (v := .slice _ _ _) ho hb hx hF rfl rfl rfl rfl ?_ | refine aT (v := .bool _) ho hb hx hF rfl rfl rfl rfl ?_); clear ho hx hb hF; intro ww hF; simp only [nf] at hF)
       )
      refine rgw [] _ hF (List.Sublist.refl _) fun hF => ?_
      refine tkf 0 rfl ?_
      try simp only [nrm, Act.put]
      refine tkf 1 rfl ?_
      try simp only [nrm, Act.put]
      refine tkc 2 1 [] (v := .int _ _) rfl rfl rfl rfl rfl ?_
      try simp only [nrm, Act.put]
      refine tkf 3 rfl ?_
      try simp only [nrm, Act.put]
      refine tkf 4 rfl ?_
      try simp only [nrm, Act.put]
      refine tkc 5 1 [] (v := .int _ _) rfl rfl rfl rfl rfl ?_
      try simp only [nrm, Act.put]
      refine rdw 6 rfl fun K hK => ?_
      go_simp
      go_at_call 87
      with_reducible refine (cl2.out _).mono ?_
      rintro _ ww ⟨rfl, hbn⟩
      replace hF := hF.call hbn
      refine hK.out _ _ (by (first | exact HoldA.past rfl | exact HoldA.of (by assumption) _ | exact HoldA.of (Fr.sub hF (by repeat (first | exact List.Sublist.slnil | apply List.Sublist.cons_cons | apply List.Sublist.cons))) _)) (fun _ => ?_)
      clear hK K; try clear hbn
      try simp only [nrm, Act.put]
      refine rdw 7 rfl fun K hK => ?_
      go_simp
      go_at_call 52
      with_reducible refine (cu2.out _).mono ?_
      rintro _ ww ⟨rfl, rfl⟩
      skip
      refine hK.out _ _ (by (first | exact HoldA.past rfl | exact HoldA.of (by assumption) _ | exact HoldA.of (Fr.sub hF (by repeat (first | exact List.Sublist.slnil | apply List.Sublist.cons_cons | apply List.Sublist.cons))) _)) (fun _ => ?_)
      clear hK K; try clear hbn
      try simp only [nrm, Act.put]
      refine tkf 8 rfl ?_
      try simp only [nrm, Act.put]
      refine rdw 9 rfl fun K hK => ?_
      go_simp
      go_at_call 86
      with_reducible refine (cp2.out _ _ _ hF.data.2).mono ?_
      rintro _ ww ⟨A3, c3, rfl, hr3, hbn, hn3⟩
      have g3 := hF.below.size
      have hF0 := hF.call hbn
      replace hF := hF.rows hbn hr3 hn3 (fun _ h => h.2)
      refine hK.out _ _ (by (first | exact HoldA.past rfl | exact HoldA.of (by assumption) _ | exact HoldA.of (Fr.sub hF (by repeat (first | exact List.Sublist.slnil | apply List.Sublist.cons_cons | apply List.Sublist.cons))) _)) (fun _ => ?_)
      clear hK K; try clear hbn
      try simp only [nrm, Act.put]
      refine tkf 10 rfl ?_
      try simp only [nrm, Act.put]
      refine tkf 11 rfl ?_
      try simp only [nrm, Act.put]
      refine tkf 12 rfl ?_
      try simp only [nrm, Act.put]
      refine tkf 13 rfl ?_
      try simp only [nrm, Act.put]
      refine dnw ?_
      clear hF0
      go_wp2_with (first
       | go_skip
       | (refine aA rfl rfl hF ?_; clear hF; intro gg ww hF; simp only [nf] at hF)
       | (refine aB rfl rfl hF rfl ?_; clear hF; intro gg ww hF; simp only [nf] at hF)
       | (refine iL (t := 3) hF rfl rfl fun ho hx hb => ?_; refine aC (v := .int _ _) ho hb hx hF rfl rfl ?_; clear ho hx hb)
       | (refine iL hF rfl rfl fun ho hx hb => ?_; (first | refine aL ho hb hx hF rfl rfl ?_ | refine aC (v := .slice _ _ _) ho hb hx hF rfl rfl ?_ | refine aC (v := .string _) ho hb hx hF rfl rfl ?_ | refine aC (v := .bool _) ho hb hx hF rfl rfl ?_); clear ho hx hb)
       | (refine iS hF rfl rfl fun ho hx hb => ?_; (first | refine aS ho hb hx hF rfl rfl rfl rfl ?_ | refine aT (v := .int _ _) ho hb hx hF rfl rfl rfl rfl ?_ | refine aT (v := .slice _ _ _) ho hb hx hF rfl rfl rfl rfl ?_ | refine aT (v := .bool _) ho hb hx hF rfl rfl rfl rfl ?_); clear ho hx hb hF; intro ww hF; simp only [nf] at hF)
       )
      refine (cd.out _).mono ?_
      rintro _ w4 ⟨rfl, hbn⟩
      replace hF := hF.call hbn
      clear hbn
      go_wp2_with (first
       | go_skip
       | (refine aA rfl rfl hF ?_; clear hF; intro gg ww hF; simp only [nf] at hF)
       | (refine aB rfl rfl hF rfl ?_; clear hF; intro gg ww hF; simp only [nf] at hF)
       | (refine iL (t := 3) hF rfl rfl fun ho hx hb => ?_; refine aC (v := .int _ _) ho hb hx hF rfl rfl ?_; clear ho hx hb)
       | (refine iL hF rfl rfl fun ho hx hb => ?_; (first | refine aL ho hb hx hF rfl rfl ?_ | refine aC (v := .slice _ _ _) ho hb hx hF rfl rfl ?_ | refine aC (v := .string _) ho hb hx hF rfl rfl ?_ | refine aC (v := .bool _) ho hb hx hF rfl rfl ?_); clear ho hx hb)
       | (refine iS hF rfl rfl fun ho hx hb => ?_; (first | refine aS ho hb hx hF rfl rfl rfl rfl ?_ | refine aT (v := .int _ _) ho hb hx hF rfl rfl rfl rfl ?_ | refine aT (v := .slice _ _ _) ho hb hx hF rfl rfl rfl rfl ?_ | refine aT (v := .bool _) ho hb hx hF rfl rfl rfl rfl ?_); clear ho hx hb hF; intro ww hF; simp only [nf] at hF)
       )
      refine (cr3.out _ A3 c3 hF.data.2).mono ?_
      rintro _ w5 ⟨rfl, hbn⟩
      replace hF := hF.call hbn
      clear hbn
      go_wp2_with (first
       | go_skip
       | (refine aA rfl rfl hF ?_; clear hF; intro gg ww hF; simp only [nf] at hF)
       | (refine aB rfl rfl hF rfl ?_; clear hF; intro gg ww hF; simp only [nf] at hF)
       | (refine iL (t := 3) hF rfl rfl fun ho hx hb => ?_; refine aC (v := .int _ _) ho hb hx hF rfl rfl ?_; clear ho hx hb)
       | (refine iL hF rfl rfl fun ho hx hb => ?_; (first | refine aL ho hb hx hF rfl rfl ?_ | refine aC (v := .slice _ _ _) ho hb hx hF rfl rfl ?_ | refine aC (v := .string _) ho hb hx hF rfl rfl ?_ | refine aC (v := .bool _) ho hb hx hF rfl rfl ?_); clear ho hx hb)
       | (refine iS hF rfl rfl fun ho hx hb => ?_; (first | refine aS ho hb hx hF rfl rfl rfl rfl ?_ | refine aT (v := .int _ _) ho hb hx hF rfl rfl rfl rfl ?_ | refine aT (v := .slice _ _ _) ho hb hx hF rfl rfl rfl rfl ?_ | refine aT (v := .bool _) ho hb hx hF rfl rfl rfl rfl ?_); clear ho hx hb hF; intro ww hF; simp only [nf] at hF)
       )
      refine rgw [] _ hF (List.Sublist.refl _) fun hF => ?_
      refine tkf 0 rfl ?_
      try simp only [nrm, Act.put]
      refine tkf 1 rfl ?_
      try simp only [nrm, Act.put]
      refine tkc 2 1 [] (v := .int _ _) rfl rfl rfl rfl rfl ?_
      try simp only [nrm, Act.put]
      refine tkf 3 rfl ?_
      try simp only [nrm, Act.put]
      refine tkf 4 rfl ?_
      try simp only [nrm, Act.put]
      refine tkc 5 1 [] (v := .int _ _) rfl rfl rfl rfl rfl ?_
      try simp only [nrm, Act.put]
      refine tkf 8 rfl ?_
      try simp only [nrm, Act.put]
      refine tkf 9 rfl ?_
      try simp only [nrm, Act.put]
      refine tkf 10 rfl ?_
      try simp only [nrm, Act.put]
      refine tkp 11 4 [] (wantOf r).cells rfl rfl rfl rfl (want_part r) rfl ?_
      try simp only [nrm, Act.put]
      refine rdw 6 rfl fun K hK => ?_
      go_simp
      go_at_call 87
      with_reducible refine (cl3.out _).mono ?_
      rintro _ ww ⟨rfl, hbn⟩
      replace hF := hF.call hbn
      refine hK.out _ _ (by (first | exact HoldA.past rfl | exact HoldA.of (by assumption) _ | exact HoldA.of (Fr.sub hF (by repeat (first | exact List.Sublist.slnil | apply List.Sublist.cons_cons | apply List.Sublist.cons))) _)) (fun _ => ?_)
      clear hK K; try clear hbn
      try simp only [nrm, Act.put]
      refine rdw 7 rfl fun K hK => ?_
      go_simp
      go_at_call 52
      with_reducible refine (cu3.out _).mono ?_
      rintro _ ww ⟨rfl, rfl⟩
      skip
      refine hK.out _ _ (by (first | exact HoldA.past rfl | exact HoldA.of (by assumption) _ | exact HoldA.of (Fr.sub hF (by repeat (first | exact List.Sublist.slnil | apply List.Sublist.cons_cons | apply List.Sublist.cons))) _)) (fun _ => ?_)
      clear hK K; try clear hbn
      try simp only [nrm, Act.put]
      refine tkf 12 rfl ?_ (v := .agg #[.int .i64 3, .int .i64 ((drawS s)).n, .int .i64 (untilI s.now 120), .bool false, .int .i64 ((k : Int) + 1), .int .i64 0, .int .i64 s.n, .int .i64 0, .string r.s1, .string r.s2, .string r.s3, .string r.s4, .string r.s5, .string r.s6, .string r.s7]) (hv := fun w => by kernel_rfl)
      try simp only [nrm, Act.put]
      refine rdw 13 rfl fun K hK => ?_
      go_simp
      go_at_call 86
      with_reducible refine (cp.out _ _ _ (hF.data.2)).mono ?_
      rintro _ ww ⟨A5, c5, rfl, hr5, hbn, hn5⟩
      have g5 := hF.below.size
      have hF0 := hF.call hbn
      replace hF := hF.rows hbn hr5 hn5 (fun _ h => h.2)
      refine hK.out _ _ (by (first | exact HoldA.past rfl | exact HoldA.of (by assumption) _ | exact HoldA.of (Fr.sub hF (by repeat (first | exact List.Sublist.slnil | apply List.Sublist.cons_cons | apply List.Sublist.cons))) _)) (fun _ => ?_)
      clear hK K; try clear hbn
      try simp only [nrm, Act.put]
      refine tkf 14 rfl ?_
      try simp only [nrm, Act.put]
      refine tkf 15 rfl ?_
      try simp only [nrm, Act.put]
      refine tkf 16 rfl ?_
      try simp only [nrm, Act.put]
      refine tkf 17 rfl ?_
      try simp only [nrm, Act.put]
      refine dnw ?_
      go_wp2_with (first
       | go_skip
       | (refine aA rfl rfl hF ?_; clear hF; intro gg ww hF; simp only [nf] at hF)
       | (refine aB rfl rfl hF rfl ?_; clear hF; intro gg ww hF; simp only [nf] at hF)
       | (refine iL (t := 3) hF rfl rfl fun ho hx hb => ?_; refine aC (v := .int _ _) ho hb hx hF rfl rfl ?_; clear ho hx hb)
       | (refine iL hF rfl rfl fun ho hx hb => ?_; (first | refine aL ho hb hx hF rfl rfl ?_ | refine aC (v := .slice _ _ _) ho hb hx hF rfl rfl ?_ | refine aC (v := .string _) ho hb hx hF rfl rfl ?_ | refine aC (v := .bool _) ho hb hx hF rfl rfl ?_); clear ho hx hb)
       | (refine iS hF rfl rfl fun ho hx hb => ?_; (first | refine aS ho hb hx hF rfl rfl rfl rfl ?_ | refine aT (v := .int _ _) ho hb hx hF rfl rfl rfl rfl ?_ | refine aT (v := .slice _ _ _) ho hb hx hF rfl rfl rfl rfl ?_ | refine aT (v := .bool _) ho hb hx hF rfl rfl rfl rfl ?_); clear ho hx hb hF; intro ww hF; simp only [nf] at hF)
       )
      refine rgw [] [_, _] hF (.cons_cons _ (.cons _ (.cons _ (.cons _ (.cons _ (.cons _ (.cons_cons _ (.cons _ .slnil)))))))) fun hF => ?_
      refine tkb 0 0 [] rfl rfl rfl rfl rfl ?_
      try simp only [nrm, Act.put]
      refine tkb 1 1 [] rfl rfl rfl rfl rfl ?_
      try simp only [nrm, Act.put]
      refine tkf 2 rfl ?_
      try simp only [nrm, Act.put]
      refine tkf 3 rfl ?_
      try simp only [nrm, Act.put]
      refine stw 4 2 hF rfl rfl rfl rfl rfl rfl rfl rfl ?_
      clear hF; intro ww hF; simp only [nf] at hF
      try simp only [nrm, Act.put]
      refine stw 5 3 hF rfl rfl rfl rfl rfl rfl rfl rfl ?_
      clear hF; intro ww hF; simp only [nf] at hF
      try simp only [nrm, Act.put]
      refine tkf 6 rfl ?_
      try simp only [nrm, Act.put]
      refine tkf 7 rfl ?_
      try simp only [nrm, Act.put]
      refine tkf 8 rfl ?_
      try simp only [nrm, Act.put]
      refine dnw ?_
      go_wp2_with (first
       | go_skip
       | (refine aA rfl rfl hF ?_; clear hF; intro gg ww hF; simp only [nf] at hF)
       | (refine aB rfl rfl hF rfl ?_; clear hF; intro gg ww hF; simp only [nf] at hF)
       | (refine iL (t := 3) hF rfl rfl fun ho hx hb => ?_; refine aC (v := .int _ _) ho hb hx hF rfl rfl ?_; clear ho hx hb)
       | (refine iL hF rfl rfl fun ho hx hb => ?_; (first | refine aL ho hb hx hF rfl rfl ?_ | refine aC (v := .slice _ _ _) ho hb hx hF rfl rfl ?_ | refine aC (v := .string _) ho hb hx hF rfl rfl ?_ | refine aC (v := .bool _) ho hb hx hF rfl rfl ?_); clear ho hx hb)
       | (refine iS hF rfl rfl fun ho hx hb => ?_; (first | refine aS ho hb hx hF rfl rfl rfl rfl ?_ | refine aT (v := .int _ _) ho hb hx hF rfl rfl rfl rfl ?_ | refine aT (v := .slice _ _ _) ho hb hx hF rfl rfl rfl rfl ?_ | refine aT (v := .bool _) ho hb hx hF rfl rfl rfl rfl ?_); clear ho hx hb hF; intro ww hF; simp only [nf] at hF)
       )
      refine bodyPost_ret (results5 Tryz.results66 (res_cell 2 hF rfl rfl rfl) (res_cell 3 hF rfl rfl rfl) (.tmp _) (.tmp _) (.tmp _)) rfl ⟨_, by rw [hv.out]; rfl, ?_⟩
      rw [hv.out]
      exact ⟨A5, c5, rfl, hF.data.2, NewRow.trans (NewRow.trans (NewRow.up g2 hn2) g3 hn3) g5 hn5, hF.below⟩
   ·
    have h2 : (r.client != (k : Int) + 1) = true := by simpa using hc
    have h1 : (r.client == (k : Int) + 1) = false := by simpa using hc
    have hv : Hid (enterP b.cls rs s sess id.data.toList key = (rs, s, 0, 0, 10)) := by show _ = _; rw [enterP, hfp]; simp only [hfo, ne_eq, hc, not_false_eq_true, if_true]
    clear hfo hfp hc
    go_enter Tryz.func66, Tryz.ntmps66
    go_wp2_with (first
     | go_skip
     | (refine aA rfl rfl hF ?_; clear hF; intro gg ww hF; simp only [nf] at hF)
     | (refine aB rfl rfl hF rfl ?_; clear hF; intro gg ww hF; simp only [nf] at hF)
     | (refine iL (t := 3) hF rfl rfl fun ho hx hb => ?_; refine aC (v := .int _ _) ho hb hx hF rfl rfl ?_; clear ho hx hb)
     | (refine iL hF rfl rfl fun ho hx hb => ?_; (first | refine aL ho hb hx hF rfl rfl ?_ | refine aC (v := .slice _ _ _) ho hb hx hF rfl rfl ?_ | refine aC (v := .string _) ho hb hx hF rfl rfl ?_ | refine aC (v := .bool _) ho hb hx hF rfl rfl ?_); clear ho hx hb)
     | (refine iS hF rfl rfl fun ho hx hb => ?_; (first | refine aS ho hb hx hF rfl rfl rfl rfl ?_ | refine aT (v := .int _ _) ho hb hx hF rfl rfl rfl rfl ?_ | refine aT (v := .slice _ _ _) ho hb hx hF rfl rfl rfl rfl ?_ | refine aT (v := .bool _) ho hb hx hF rfl rfl rfl rfl ?_); clear ho hx hb hF; intro ww hF; simp only [nf] at hF)
     )
    refine (cf.out _ hF.below).mono ?_
    rintro _ w1 ⟨rfl, rfl⟩
    go_wp2_with (first
     | go_skip
     | (refine aA rfl rfl hF ?_; clear hF; intro gg ww hF; simp only [nf] at hF)
     | (refine aB rfl rfl hF rfl ?_; clear hF; intro gg ww hF; simp only [nf] at hF)
     | (refine iL (t := 3) hF rfl rfl fun ho hx hb => ?_; refine aC (v := .int _ _) ho hb hx hF rfl rfl ?_; clear ho hx hb)
     | (refine iL hF rfl rfl fun ho hx hb => ?_; (first | refine aL ho hb hx hF rfl rfl ?_ | refine aC (v := .slice _ _ _) ho hb hx hF rfl rfl ?_ | refine aC (v := .string _) ho hb hx hF rfl rfl ?_ | refine aC (v := .bool _) ho hb hx hF rfl rfl ?_); clear ho hx hb)
     | (refine iS hF rfl rfl fun ho hx hb => ?_; (first | refine aS ho hb hx hF rfl rfl rfl rfl ?_ | refine aT (v := .int _ _) ho hb hx hF rfl rfl rfl rfl ?_ | refine aT (v := .slice _ _ _) ho hb hx hF rfl rfl rfl rfl ?_ | refine aT (v := .bool _) ho hb hx hF rfl rfl rfl rfl ?_); clear ho hx hb hF; intro ww hF; simp only [nf] at hF)
     )
    refine (ch.out _ hF.data).mono ?_
    rintro _ w1 ⟨rfl, hbn⟩
    replace hF := hF.call hbn
    clear hbn
    go_wp2_with (first
     | go_skip
     | (refine aA rfl rfl hF ?_; clear hF; intro gg ww hF; simp only [nf] at hF)
     | (refine aB rfl rfl hF rfl ?_; clear hF; intro gg ww hF; simp only [nf] at hF)
     | (refine iL (t := 3) hF rfl rfl fun ho hx hb => ?_; refine aC (v := .int _ _) ho hb hx hF rfl rfl ?_; clear ho hx hb)
     | (refine iL hF rfl rfl fun ho hx hb => ?_; (first | refine aL ho hb hx hF rfl rfl ?_ | refine aC (v := .slice _ _ _) ho hb hx hF rfl rfl ?_ | refine aC (v := .string _) ho hb hx hF rfl rfl ?_ | refine aC (v := .bool _) ho hb hx hF rfl rfl ?_); clear ho hx hb)
     | (refine iS hF rfl rfl fun ho hx hb => ?_; (first | refine aS ho hb hx hF rfl rfl rfl rfl ?_ | refine aT (v := .int _ _) ho hb hx hF rfl rfl rfl rfl ?_ | refine aT (v := .slice _ _ _) ho hb hx hF rfl rfl rfl rfl ?_ | refine aT (v := .bool _) ho hb hx hF rfl rfl rfl rfl ?_); clear ho hx hb hF; intro ww hF; simp only [nf] at hF)
     )
    refine rgw [] [_, _] hF (.cons_cons _ (.cons_cons _ (.cons _ (.cons _ (.cons _ .slnil))))) fun hF => ?_
    refine tkb 0 0 [] rfl rfl rfl rfl rfl ?_
    try simp only [nrm, Act.put]
    refine tkb 1 1 [] rfl rfl rfl rfl rfl ?_
    try simp only [nrm, Act.put]
    refine stw 2 2 hF rfl rfl rfl rfl rfl rfl rfl rfl ?_
    clear hF; intro ww hF; simp only [nf] at hF
    try simp only [nrm, Act.put]
    refine stw 3 3 hF rfl rfl rfl rfl rfl rfl rfl rfl ?_
    clear hF; intro ww hF; simp only [nf] at hF
    try simp only [nrm, Act.put]
    refine tkf 4 rfl ?_
    try simp only [nrm, Act.put]
    refine tkf 5 rfl ?_
    try simp only [nrm, Act.put]
    refine tkf 6 rfl ?_
    try simp only [nrm, Act.put]
    refine dnw ?_
    go_wp2_with (first
     | go_skip
     | (refine aA rfl rfl hF ?_; clear hF; intro gg ww hF; simp only [nf] at hF)
     | (refine aB rfl rfl hF rfl ?_; clear hF; intro gg ww hF; simp only [nf] at hF)
     | (refine iL (t := 3) hF rfl rfl fun ho hx hb => ?_; refine aC (v := .int _ _) ho hb hx hF rfl rfl ?_; clear ho hx hb)
     | (refine iL hF rfl rfl fun ho hx hb => ?_; (first | refine aL ho hb hx hF rfl rfl ?_ | refine aC (v := .slice _ _ _) ho hb hx hF rfl rfl ?_ | refine aC (v := .string _) ho hb hx hF rfl rfl ?_ | refine aC (v := .bool _) ho hb hx hF rfl rfl ?_); clear ho hx hb)
     | (refine iS hF rfl rfl fun ho hx hb => ?_; (first | refine aS ho hb hx hF rfl rfl rfl rfl ?_ | refine aT (v := .int _ _) ho hb hx hF rfl rfl rfl rfl ?_ | refine aT (v := .slice _ _ _) ho hb hx hF rfl rfl rfl rfl ?_ | refine aT (v := .bool _) ho hb hx hF rfl rfl rfl rfl ?_); clear ho hx hb hF; intro ww hF; simp only [nf] at hF)
     )
    refine bodyPost_ret (results5 Tryz.results66 (res_cell 2 hF rfl rfl rfl) (res_cell 3 hF rfl rfl rfl) (.tmp _) (.tmp _) (.tmp _)) rfl ⟨_, by rw [hv.out]; rfl, ?_⟩
    rw [hv.out]
    exact StR.same (b := b) (cl := cl) HR.out hF.below
end Go.Proofs.YtnhjgocdepbajaaGreat
