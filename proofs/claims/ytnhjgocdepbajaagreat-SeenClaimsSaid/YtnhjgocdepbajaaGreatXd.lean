/- countersignref21.Login. Conditions: rows of sizes that a machine bears. Printed by wip/tools/genXd.py. -/
import Derived.Test.YtnhjgocdepbajaaGreatXb
set_option linter.unusedVariables false
set_option linter.unusedSimpArgs false
set_option maxRecDepth 20000
namespace Go.Proofs.YtnhjgocdepbajaaGreat
open Go.RowKit S19 C17 R
theorem Fr.named {w0 w : World} {bs : List Bx} {D : World → Prop} (h : Fr w0 w bs D) : ∃ bs', bs' = bs ∧ Fr w0 w bs' D := ⟨bs, rfl, h⟩
theorem us_two {w : World} {B n : Nat} {ad : Addr} {fs : List UsP} (h : Reads w B 2 (some ad) n (uCells fs)) {k : Nat} {f : UsP} (hk : fs[k]? = some f) :
  w.cell? (ad.add (k * 2)) = some (.string ⟨f.nm.toArray⟩) ∧ w.cell? ⟨(ad.add (k * 2)).block, (ad.add (k * 2)).off + 1, none⟩ = some (.int .i64 f.pass) :=
 ⟨us_at h hk 0 _ rfl, us_at h hk 1 _ rfl⟩
def LogR (b : Bs) (cl : List Cl) (CA : Option Addr) (cc : Nat) (UA : Option Addr) (uc : Nat) (RA : Option Addr) (rc : Nat) (rs : List Rc) (x : List Rc × Int) (w : World) (e : Ending) (w' : World) : Prop :=
 ∃ v, e = .returned (.tuple #[v, .int .i64 x.2]) ∧ StR b cl CA cc UA uc RA rc rs x.1 w w' v
theorem userP_some {us : List UsP} {q : List UInt8} {k : Nat} {u : UsP} (h : ∀ j, j < k → ∀ x, us[j]? = some x → x.nm ≠ q) (hk : us[k]? = some u) (he : u.nm = q) : userP us q = some k := by
 obtain ⟨hlt, e⟩ := List.getElem?_eq_some_iff.1 hk
 rw [userP, List.findIdx?_eq_some_iff_getElem]
 refine ⟨hlt, by rw [e]; simpa using he, fun j hj => ?_⟩
 simpa using h j hj _ (List.getElem?_eq_getElem (by omega))
theorem userP_none {us : List UsP} {q : List UInt8} (h : ∀ j, j < us.length → ∀ x, us[j]? = some x → x.nm ≠ q) : userP us q = none := by
 rw [userP, List.findIdx?_eq_none_iff]
 intro x hx
 obtain ⟨j, hj, e⟩ := List.getElem_of_mem hx
 simpa using h j hj x (by rw [List.getElem?_eq_getElem hj, e])
set_option maxHeartbeats 8000000 in
theorem rlogin_walk (b : Bs) (rs : List Rc) (now sess door : Int) (user pass : ByteArray) (cl : List Cl) (CA : Option Addr) (cc : Nat) (UA : Option Addr) (uc : Nat) (RA : Option Addr) (rc : Nat) (w : World) (hst : StH b rs w cl CA cc UA uc RA rc) (hus : b.us.length ≤ 1000000) :
  Calls Tryz.prog 67 #[.agg (stA b.nm b.key CA cl.length cc UA b.us.length uc RA rs.length rc), .int .i64 now, .int .i64 sess, .int .i64 door, .string user, .string pass] w
   (LogR b cl CA cc UA uc RA rc rs (loginP b.us rs now sess door user.data.toList pass.data.toList) w) := by
 have hF := Fr.start w (kp_start hst.rs)
 have HR := Lib.hid hst.rs
 have cb := Lib.hid (fun W h => rboth_walk b rs now sess door cl CA cc UA uc RA rc W h)
 have HU := Lib.hid (fun W (hW : Below w.heap.size w W) => hst.us.below hW)
 have huc := hst.us.1
 clear hst
 cases hbo : bothO rs now sess door with
 | none =>
  have hv : Hid (loginP b.us rs now sess door user.data.toList pass.data.toList = (rs, 10)) := by show _ = _; rw [loginP, hbo]
  rw [hbo] at cb
  generalize (findO rs now 2 sess).getD Rc.none = ra at cb
  generalize (findO rs now 3 door).getD Rc.none = rd at cb
  clear hbo
  go_enter Tryz.func67, Tryz.ntmps67
  go_wp2_with (first
   | go_skip
   | (refine aA rfl rfl hF ?_; clear hF; intro gg ww hF; simp only [nf] at hF)
   | (refine aB rfl rfl hF rfl ?_; clear hF; intro gg ww hF; simp only [nf] at hF)
   | (refine iL (t := 3) hF rfl rfl fun ho hx hb => ?_; refine aC (v := .int _ _) ho hb hx hF rfl rfl ?_; clear ho hx hb)
   | (refine iL hF rfl rfl fun ho hx hb => ?_; (first | refine aL ho hb hx hF rfl rfl ?_ | refine aC (v := .slice _ _ _) ho hb hx hF rfl rfl ?_ | refine aC (v := .string _) ho hb hx hF rfl rfl ?_ | refine aC (v := .bool _) ho hb hx hF rfl rfl ?_); clear ho hx hb)
   | (refine iS hF rfl rfl fun ho hx hb => ?_; (first | refine aS ho hb hx hF rfl rfl rfl rfl ?_ | refine aT (v := .int _ _) ho hb hx hF rfl rfl rfl rfl ?_ | refine aT (v := .slice _ _ _) ho hb hx hF rfl rfl rfl rfl ?_ | refine aT (v := .bool _) ho hb hx hF rfl rfl rfl rfl ?_); clear ho hx hb hF; intro ww hF; simp only [nf] at hF)
   )
  refine (cb.out _ hF.data).mono ?_
  rintro _ w1 ⟨rfl, hbn⟩
  replace hF := hF.call hbn
  clear hbn
  go_wp2_with (first
   | go_skip
   | (refine aA rfl rfl hF ?_; clear hF; intro gg ww hF; simp only [nf] at hF)
   | (refine aB rfl rfl hF rfl ?_; clear hF; intro gg ww hF; simp only [nf] at hF)
   | (refine iL (t := 3) hF rfl rfl fun ho hx hb => ?_; refine aC (v := .int _ _) ho hb hx hF rfl rfl ?_; clear ho hx hb)
   | (refine iL hF rfl rfl fun ho hx hb => ?_; (first | refine aL ho hb hx hF rfl rfl ?_ | refine aC (v := .slice _ _ _) ho hb hx hF rfl rfl ?_ | refine aC (v := .string _) ho hb hx hF rfl rfl ?_ | refine aC (v := .bool _) ho hb hx hF rfl rfl ?_); clear ho hx hb)
   | (refine iS hF rfl rfl fun ho hx hb => ?_; (first | refine aS ho hb hx hF rfl rfl rfl rfl ?_ | refine aT (v := .int _ _) ho hb hx hF rfl rfl rfl rfl ?_ | refine aT (v := .slice _ _ _) ho hb hx hF rfl rfl rfl rfl ?_ | refine aT (v := .bool _) ho hb hx hF rfl rfl rfl rfl ?_); clear ho hx hb hF; intro ww hF; simp only [nf] at hF)
   )
  refine bodyPost_ret (results2 Tryz.results67 (res_cell 1 hF rfl rfl rfl) (.tmp _)) rfl ⟨_, by rw [hv.out]; rfl, ?_⟩
  rw [hv.out]
  exact StR.same (b := b) (cl := cl) HR.out hF.below
 | some x =>
  obtain ⟨a, d⟩ := x
  obtain ⟨f2, f3, hds⟩ := both_some hbo
  have HV : Hid (loginP b.us rs now sess door user.data.toList pass.data.toList = if loginI b.us user.data.toList pass.data.toList = 0 then (rs, 14) else (changeL rs now { a with user := loginI b.us user.data.toList pass.data.toList }, 0)) := by
   show _ = _
   rw [loginP, hbo]
  rw [hbo, f2, f3] at cb
  clear hbo f2 f3 hds
  go_enter Tryz.func67, Tryz.ntmps67
  go_wp2_with (first
   | go_skip
   | (refine aA rfl rfl hF ?_; clear hF; intro gg ww hF; simp only [nf] at hF)
   | (refine aB rfl rfl hF rfl ?_; clear hF; intro gg ww hF; simp only [nf] at hF)
   | (refine iL (t := 3) hF rfl rfl fun ho hx hb => ?_; refine aC (v := .int _ _) ho hb hx hF rfl rfl ?_; clear ho hx hb)
   | (refine iL hF rfl rfl fun ho hx hb => ?_; (first | refine aL ho hb hx hF rfl rfl ?_ | refine aC (v := .slice _ _ _) ho hb hx hF rfl rfl ?_ | refine aC (v := .string _) ho hb hx hF rfl rfl ?_ | refine aC (v := .bool _) ho hb hx hF rfl rfl ?_); clear ho hx hb)
   | (refine iS hF rfl rfl fun ho hx hb => ?_; (first | refine aS ho hb hx hF rfl rfl rfl rfl ?_ | refine aT (v := .int _ _) ho hb hx hF rfl rfl rfl rfl ?_ | refine aT (v := .slice _ _ _) ho hb hx hF rfl rfl rfl rfl ?_ | refine aT (v := .bool _) ho hb hx hF rfl rfl rfl rfl ?_); clear ho hx hb hF; intro ww hF; simp only [nf] at hF)
   )
  refine (cb.out _ hF.data).mono ?_
  rintro _ w1 ⟨rfl, hbn⟩
  replace hF := hF.call hbn
  clear hbn
  go_wp2_with (first
   | go_skip
   | (refine aA rfl rfl hF ?_; clear hF; intro gg ww hF; simp only [nf] at hF)
   | (refine aB rfl rfl hF rfl ?_; clear hF; intro gg ww hF; simp only [nf] at hF)
   | (refine iL (t := 3) hF rfl rfl fun ho hx hb => ?_; refine aC (v := .int _ _) ho hb hx hF rfl rfl ?_; clear ho hx hb)
   | (refine iL hF rfl rfl fun ho hx hb => ?_; (first | refine aL ho hb hx hF rfl rfl ?_ | refine aC (v := .slice _ _ _) ho hb hx hF rfl rfl ?_ | refine aC (v := .string _) ho hb hx hF rfl rfl ?_ | refine aC (v := .bool _) ho hb hx hF rfl rfl ?_); clear ho hx hb)
   | (refine iS hF rfl rfl fun ho hx hb => ?_; (first | refine aS ho hb hx hF rfl rfl rfl rfl ?_ | refine aT (v := .int _ _) ho hb hx hF rfl rfl rfl rfl ?_ | refine aT (v := .slice _ _ _) ho hb hx hF rfl rfl rfl rfl ?_ | refine aT (v := .bool _) ho hb hx hF rfl rfl rfl rfl ?_); clear ho hx hb hF; intro ww hF; simp only [nf] at hF)
   )
  obtain ⟨bs0, hbs0, hF0⟩ := hF.named
  have HB0 := Lib.hid hbs0
  clear hbs0 hF
  go_loopw [17] (fun iv wr => ∃ k : Nat, k ≤ b.us.length ∧ iv = .int .i64 k ∧ Hid (∀ j, j < k → ∀ x, b.us[j]? = some x → x.nm ≠ user.data.toList) ∧ Fr w wr bs0 (fun W => RecsAt W RA rc rs)) (fun iv _ => b.us.length - (intOf iv).toNat)
  case atStart => exact ⟨0, by omega, rfl, fun j hj => by omega, hF0⟩
  case round =>
   clear hF0
   obtain ⟨k, hk, rfl, hno, hF⟩ := hrel
   have hbs0 := HB0.out
   subst hbs0
   have hk0 : (k : Int) + 1 - 1 = (k : Int) := by omega
   by_cases hlt : k < b.us.length
   ·
    obtain ⟨u, huk⟩ : ∃ u, b.us[k]? = some u := ⟨_, List.getElem?_eq_getElem hlt⟩
    have hU := HU.out _ hF.below
    obtain ⟨ad, rfl⟩ : ∃ ad, UA = some ad := by obtain ⟨ad, h, _⟩ := hU.2.2 (by omega); exact ⟨ad, h⟩
    obtain ⟨hx0, hx1⟩ := us_two hU.2 huk
    have q1 := tl_ne ⟨u.nm.toArray⟩ user
    have q2 := tl_eq ⟨u.nm.toArray⟩ user
    rw [show (⟨u.nm.toArray⟩ : ByteArray).data.toList = u.nm by simp] at q1 q2
    have hlt2 : (k : Int) < (b.us.length : Int) := by omega
    generalize (⟨u.nm.toArray⟩ : ByteArray) = nm at hx0 q1 q2
    by_cases hnm : u.nm = user.data.toList
    ·
     rw [decide_eq_true hnm] at q1 q2
     have HI : Hid (loginI b.us user.data.toList pass.data.toList = if pass.data.toList = K9.keyL u.pass then (k : Int) + 1 else 0) := by show _ = _; rw [loginI, userP_some hno.out huk hnm]; simp only [huk]
     have cky := Lib.hid (fun W => K9.key_walk u.pass W)
     have p1 := tl_ne pass ⟨(K9.keyL u.pass).toArray⟩
     have p2 := tl_eq pass ⟨(K9.keyL u.pass).toArray⟩
     rw [show (⟨(K9.keyL u.pass).toArray⟩ : ByteArray).data.toList = K9.keyL u.pass by simp] at p1 p2
     have hne : ((k : Int) == (b.us.length : Int)) = false := by rw [beq_eq_false_iff_ne]; omega
     generalize K9.keyL u.pass = kl at cky p1 p2 HI
     generalize u.pass = up at hx1 cky
     generalize (⟨kl.toArray⟩ : ByteArray) = ks at cky p1 p2
     by_cases hps : pass.data.toList = kl
     ·
      rw [decide_eq_true hps] at p1 p2
      have hi : loginI b.us user.data.toList pass.data.toList = (k : Int) + 1 := by rw [HI.out, if_pos hps]
      have hv : Hid (loginP b.us rs now sess door user.data.toList pass.data.toList = (changeL rs now { a with user := (k : Int) + 1 }, 0)) := by show _ = _; rw [HV.out, hi, if_neg (by omega)]
      have cc' := Lib.hid (fun W h => rchange_walk rs RA rc now { a with user := (k : Int) + 1 } W h)
      have hcl := changeL_len rs now { a with user := (k : Int) + 1 }
      generalize changeL rs now { a with user := (k : Int) + 1 } = L1 at hv cc' hcl
      generalize (changeI rs now { a with user := (k : Int) + 1 }).isSome = isc at cc'
      have hwr : True → IntKind.i64.wrap ((k : Int) + 1) = (k : Int) + 1 := fun _ => by rw [IntKind.wrap_i64]; omega
      have hwr2 : True → wrap64 ((k : Int) + 1) = (k : Int) + 1 := fun _ => by unfold wrap64; omega
      clear hi HI hps hnm huk hU
      go_wp2_with (first
       | go_skip
       | (refine aA rfl rfl hF ?_; clear hF; intro gg ww hF; simp only [nf] at hF)
       | (refine aB rfl rfl hF rfl ?_; clear hF; intro gg ww hF; simp only [nf] at hF)
       | (refine iL (t := 3) hF rfl rfl fun ho hx hb => ?_; refine aC (v := .int _ _) ho hb hx hF rfl rfl ?_; clear ho hx hb)
       | (refine iL hF rfl rfl fun ho hx hb => ?_; (first | refine aL ho hb hx hF rfl rfl ?_ | refine aC (v := .slice _ _ _) ho hb hx hF rfl rfl ?_ | refine aC (v := .string _) ho hb hx hF rfl rfl ?_ | refine aC (v := .bool _) ho hb hx hF rfl rfl ?_); clear ho hx hb)
       | (refine iS hF rfl rfl fun ho hx hb => ?_; (first | refine aS ho hb hx hF rfl rfl rfl rfl ?_ | refine aT (v := .int _ _) ho hb hx hF rfl rfl rfl rfl ?_ | refine aT (v := .slice _ _ _) ho hb hx hF rfl rfl rfl rfl ?_ | refine aT (v := .bool _) ho hb hx hF rfl rfl rfl rfl ?_); clear ho hx hb hF; intro ww hF; simp only [nf] at hF)
       )
      refine (cky.out _).mono ?_
      rintro _ w2 ⟨rfl, hbn⟩
      replace hF := hF.call hbn
      clear hbn hx0 hx1
      go_wp2_with (first
       | go_skip
       | (refine aA rfl rfl hF ?_; clear hF; intro gg ww hF; simp only [nf] at hF)
       | (refine aB rfl rfl hF rfl ?_; clear hF; intro gg ww hF; simp only [nf] at hF)
       | (refine iL (t := 3) hF rfl rfl fun ho hx hb => ?_; refine aC (v := .int _ _) ho hb hx hF rfl rfl ?_; clear ho hx hb)
       | (refine iL hF rfl rfl fun ho hx hb => ?_; (first | refine aL ho hb hx hF rfl rfl ?_ | refine aC (v := .slice _ _ _) ho hb hx hF rfl rfl ?_ | refine aC (v := .string _) ho hb hx hF rfl rfl ?_ | refine aC (v := .bool _) ho hb hx hF rfl rfl ?_); clear ho hx hb)
       | (refine iS hF rfl rfl fun ho hx hb => ?_; (first | refine aS ho hb hx hF rfl rfl rfl rfl ?_ | refine aT (v := .int _ _) ho hb hx hF rfl rfl rfl rfl ?_ | refine aT (v := .slice _ _ _) ho hb hx hF rfl rfl rfl rfl ?_ | refine aT (v := .bool _) ho hb hx hF rfl rfl rfl rfl ?_); clear ho hx hb hF; intro ww hF; simp only [nf] at hF)
       )
      replace hF : Fr w _ [_, _, (_, _, ({ a with user := (k : Int) + 1 } : Rc).arr), _] _ := hF
      refine (cc'.out _ hF.data).mono ?_
      rintro _ w3 ⟨A2, c2, rfl, hr2, hbn, hn2⟩
      have g2 := hF.below.size
      replace hF := hF.rows hbn hr2 hn2 (fun _ h => h)
      clear hbn hr2
      go_wp2_with (first
       | go_skip
       | (refine aA rfl rfl hF ?_; clear hF; intro gg ww hF; simp only [nf] at hF)
       | (refine aB rfl rfl hF rfl ?_; clear hF; intro gg ww hF; simp only [nf] at hF)
       | (refine iL (t := 3) hF rfl rfl fun ho hx hb => ?_; refine aC (v := .int _ _) ho hb hx hF rfl rfl ?_; clear ho hx hb)
       | (refine iL hF rfl rfl fun ho hx hb => ?_; (first | refine aL ho hb hx hF rfl rfl ?_ | refine aC (v := .slice _ _ _) ho hb hx hF rfl rfl ?_ | refine aC (v := .string _) ho hb hx hF rfl rfl ?_ | refine aC (v := .bool _) ho hb hx hF rfl rfl ?_); clear ho hx hb)
       | (refine iS hF rfl rfl fun ho hx hb => ?_; (first | refine aS ho hb hx hF rfl rfl rfl rfl ?_ | refine aT (v := .int _ _) ho hb hx hF rfl rfl rfl rfl ?_ | refine aT (v := .slice _ _ _) ho hb hx hF rfl rfl rfl rfl ?_ | refine aT (v := .bool _) ho hb hx hF rfl rfl rfl rfl ?_); clear ho hx hb hF; intro ww hF; simp only [nf] at hF)
       )
      refine bodyPost_ret (results2 Tryz.results67 (res_cell 1 hF rfl rfl rfl) (.tmp _)) rfl ⟨_, by rw [hv.out]; rfl, ?_⟩
      rw [hv.out]
      exact ⟨A2, c2, rfl, hF.data.2, NewRow.up g2 hn2, hF.below⟩
     ·
      rw [decide_eq_false hps] at p1 p2
      have hi : loginI b.us user.data.toList pass.data.toList = 0 := by rw [HI.out, if_neg hps]
      have hv : Hid (loginP b.us rs now sess door user.data.toList pass.data.toList = (rs, 14)) := by show _ = _; rw [HV.out, hi, if_pos rfl]
      clear hi HI hps hnm huk hU
      go_wp2_with (first
       | go_skip
       | (refine aA rfl rfl hF ?_; clear hF; intro gg ww hF; simp only [nf] at hF)
       | (refine aB rfl rfl hF rfl ?_; clear hF; intro gg ww hF; simp only [nf] at hF)
       | (refine iL (t := 3) hF rfl rfl fun ho hx hb => ?_; refine aC (v := .int _ _) ho hb hx hF rfl rfl ?_; clear ho hx hb)
       | (refine iL hF rfl rfl fun ho hx hb => ?_; (first | refine aL ho hb hx hF rfl rfl ?_ | refine aC (v := .slice _ _ _) ho hb hx hF rfl rfl ?_ | refine aC (v := .string _) ho hb hx hF rfl rfl ?_ | refine aC (v := .bool _) ho hb hx hF rfl rfl ?_); clear ho hx hb)
       | (refine iS hF rfl rfl fun ho hx hb => ?_; (first | refine aS ho hb hx hF rfl rfl rfl rfl ?_ | refine aT (v := .int _ _) ho hb hx hF rfl rfl rfl rfl ?_ | refine aT (v := .slice _ _ _) ho hb hx hF rfl rfl rfl rfl ?_ | refine aT (v := .bool _) ho hb hx hF rfl rfl rfl rfl ?_); clear ho hx hb hF; intro ww hF; simp only [nf] at hF)
       )
      refine (cky.out _).mono ?_
      rintro _ w2 ⟨rfl, hbn⟩
      replace hF := hF.call hbn
      clear hbn hx0 hx1
      go_wp2_with (first
       | go_skip
       | (refine aA rfl rfl hF ?_; clear hF; intro gg ww hF; simp only [nf] at hF)
       | (refine aB rfl rfl hF rfl ?_; clear hF; intro gg ww hF; simp only [nf] at hF)
       | (refine iL (t := 3) hF rfl rfl fun ho hx hb => ?_; refine aC (v := .int _ _) ho hb hx hF rfl rfl ?_; clear ho hx hb)
       | (refine iL hF rfl rfl fun ho hx hb => ?_; (first | refine aL ho hb hx hF rfl rfl ?_ | refine aC (v := .slice _ _ _) ho hb hx hF rfl rfl ?_ | refine aC (v := .string _) ho hb hx hF rfl rfl ?_ | refine aC (v := .bool _) ho hb hx hF rfl rfl ?_); clear ho hx hb)
       | (refine iS hF rfl rfl fun ho hx hb => ?_; (first | refine aS ho hb hx hF rfl rfl rfl rfl ?_ | refine aT (v := .int _ _) ho hb hx hF rfl rfl rfl rfl ?_ | refine aT (v := .slice _ _ _) ho hb hx hF rfl rfl rfl rfl ?_ | refine aT (v := .bool _) ho hb hx hF rfl rfl rfl rfl ?_); clear ho hx hb hF; intro ww hF; simp only [nf] at hF)
       )
      refine bodyPost_ret (results2 Tryz.results67 (res_cell 1 hF rfl rfl rfl) (.tmp _)) rfl ⟨_, by rw [hv.out]; rfl, ?_⟩
      rw [hv.out]
      exact StR.same (b := b) (cl := cl) HR.out hF.below
    ·
     rw [decide_eq_false hnm] at q1 q2
     have HN2 : Hid (∀ j, j < k + 1 → ∀ x, b.us[j]? = some x → x.nm ≠ user.data.toList) := by
      show ∀ j, j < k + 1 → _
      intro j hj x hx
      rcases Nat.lt_or_ge j k with h | h
      ·
       exact hno.out j h x hx
      ·
       rw [show j = k by omega, huk] at hx
       injection hx with e
       rw [← e]; exact hnm
     clear hnm huk hU
     go_wp2_with (first
      | go_skip
      | (refine aA rfl rfl hF ?_; clear hF; intro gg ww hF; simp only [nf] at hF)
      | (refine aB rfl rfl hF rfl ?_; clear hF; intro gg ww hF; simp only [nf] at hF)
      | (refine iL (t := 3) hF rfl rfl fun ho hx hb => ?_; refine aC (v := .int _ _) ho hb hx hF rfl rfl ?_; clear ho hx hb)
      | (refine iL hF rfl rfl fun ho hx hb => ?_; (first | refine aL ho hb hx hF rfl rfl ?_ | refine aC (v := .slice _ _ _) ho hb hx hF rfl rfl ?_ | refine aC (v := .string _) ho hb hx hF rfl rfl ?_ | refine aC (v := .bool _) ho hb hx hF rfl rfl ?_); clear ho hx hb)
      | (refine iS hF rfl rfl fun ho hx hb => ?_; (first | refine aS ho hb hx hF rfl rfl rfl rfl ?_ | refine aT (v := .int _ _) ho hb hx hF rfl rfl rfl rfl ?_ | refine aT (v := .slice _ _ _) ho hb hx hF rfl rfl rfl rfl ?_ | refine aT (v := .bool _) ho hb hx hF rfl rfl rfl rfl ?_); clear ho hx hb hF; intro ww hF; simp only [nf] at hF)
      )
     exact ⟨⟨k + 1, by omega, by go_num, HN2, hF⟩, by simp [intOf]; omega⟩
   ·
    have hkl : k = b.us.length := by omega
    have hi : loginI b.us user.data.toList pass.data.toList = 0 := by rw [loginI, userP_none (by rw [← hkl]; exact hno.out)]
    have hv : Hid (loginP b.us rs now sess door user.data.toList pass.data.toList = (rs, 14)) := by show _ = _; rw [HV.out, hi, if_pos rfl]
    have hk1 : ¬ (k : Int) < (b.us.length : Int) := by omega
    have he1 : ((k : Int) == (b.us.length : Int)) = true := by rw [beq_iff_eq]; omega
    have hk2 : decide ((k : Int) < (b.us.length : Int)) = false := by simpa using hlt
    have hk3 : decide (k < b.us.length) = false := by simpa using hlt
    clear hi hkl hlt
    have hc3 : wr.cell? _ = some (.slice UA b.us.length uc) := hF.cell (i := 0) rfl 3
    go_upto_region 7 with (fail)
    go_wp2_with (first
     | go_skip
     | (refine aA rfl rfl hF ?_; clear hF; intro gg ww hF; simp only [nf] at hF)
     | (refine aB rfl rfl hF rfl ?_; clear hF; intro gg ww hF; simp only [nf] at hF)
     | (refine iL (t := 3) hF rfl rfl fun ho hx hb => ?_; refine aC (v := .int _ _) ho hb hx hF rfl rfl ?_; clear ho hx hb)
     | (refine iL hF rfl rfl fun ho hx hb => ?_; (first | refine aL ho hb hx hF rfl rfl ?_ | refine aC (v := .slice _ _ _) ho hb hx hF rfl rfl ?_ | refine aC (v := .string _) ho hb hx hF rfl rfl ?_ | refine aC (v := .bool _) ho hb hx hF rfl rfl ?_); clear ho hx hb)
     | (refine iS hF rfl rfl fun ho hx hb => ?_; (first | refine aS ho hb hx hF rfl rfl rfl rfl ?_ | refine aT (v := .int _ _) ho hb hx hF rfl rfl rfl rfl ?_ | refine aT (v := .slice _ _ _) ho hb hx hF rfl rfl rfl rfl ?_ | refine aT (v := .bool _) ho hb hx hF rfl rfl rfl rfl ?_); clear ho hx hb hF; intro ww hF; simp only [nf] at hF)
     )
    refine bodyPost_ret (results2 Tryz.results67 (res_cell 1 hF rfl rfl rfl) (.tmp _)) rfl ⟨_, by rw [hv.out]; rfl, ?_⟩
    rw [hv.out]
    exact StR.same (b := b) (cl := cl) HR.out hF.below
end Go.Proofs.YtnhjgocdepbajaaGreat
