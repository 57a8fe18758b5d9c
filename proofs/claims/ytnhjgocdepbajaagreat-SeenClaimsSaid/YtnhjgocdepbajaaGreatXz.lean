/- countersignref20.Push. Conditions: texts of sizes that a machine bears. Printed by wip/tools/genXz.py. -/
import Derived.Test.YtnhjgocdepbajaaGreatXy
set_option linter.unusedVariables false
set_option linter.unusedSimpArgs false
set_option maxRecDepth 20000
namespace Go.Proofs.YtnhjgocdepbajaaGreat
open Go.RowKit S19 C17 R
theorem exec_row {op : Oper} {a : Act} {w : World} {t' : TypeId} {x : Operand} {ad : Addr} {cs : List Value} [hs : StructIs t'] (ho : op.op = .load t' x) (hx : a.eval x = .pointer (some ad)) (hc : ∀ j u, cs[j]? = some u → w.cell? (ad.add j) = some u) (hn : cs.length = hs.n) :
  (execOp a.eval op).run Tryz.prog w = .ok (.value (.agg cs.toArray)) w := by
 obtain ⟨d, hu, hd⟩ := hs.d
 have := run_loadVar_at (P := Tryz.prog) w ad t' cs d hc hu (by cases d <;> first | rfl | cases hd) (by rw [hs.s, hn])
 unfold execOp
 simp only [ho, hx, Instr.loadAt, Instr.sureAddr, Sem.run_bind, Sem.run_pure, Result.andThen_ok, this]
def ClOk (c : ClP) : Prop := c.red.length ≤ 1000000 ∧ c.sc.length ≤ 1000000
def PushR (b : Bs) (cl : List Cl) (CA : Option Addr) (cc : Nat) (UA : Option Addr) (uc : Nat) (RA : Option Addr) (rc : Nat) (rs : List Rc) (x : List Rc × Sr × Int × Int) (w : World) (e : Ending) (w' : World) : Prop :=
 ∃ v, e = .returned (.tuple #[v, .agg x.2.1.arr, .int .i64 x.2.2.1, .int .i64 x.2.2.2]) ∧ StR b cl CA cc UA uc RA rc rs x.1 w w' v
theorem push_arr (q : Wt) (k t n : Int) : (recOf 1 k t false n 0 0 0 q).arr = #[.int .i64 1, .int .i64 k, .int .i64 t, .bool false, .int .i64 n, .int .i64 0, .int .i64 0, .int .i64 0, .string q.t1, .string q.t2, .string q.t3, .string q.t4, .string q.t5, .string q.t6, .string q.t7] := rfl
set_option maxHeartbeats 8000000 in
theorem rpush_walk (b : Bs) (rs : List Rc) (s : Sr) (n : Int) (q : Wt) (cl : List Cl) (CA : Option Addr) (cc : Nat) (UA : Option Addr) (uc : Nat) (RA : Option Addr) (rc : Nat) (w : World) (hst : StH b rs w cl CA cc UA uc RA rc) (hm : rs.length ≤ 700000)
  (hn : 0 ≤ s.n ∧ s.n ≤ 1500000000) (ht : 0 ≤ s.now ∧ s.now ≤ 1000000000) (hq : WtOk q) (hcl : ∀ c ∈ b.cls, ClOk c) (hz : -9223372036854775808 ≤ n ∧ n ≤ 9223372036854775807) :
  Calls Tryz.prog 65 #[.agg (stA b.nm b.key CA cl.length cc UA b.us.length uc RA rs.length rc), .agg s.arr, .int .i64 n, .agg q.arr] w
   (PushR b cl CA cc UA uc RA rc rs (pushP b.cls rs s n q) w) := by
 have hF := Fr.start w (kp_start hst.rs)
 have HS := Lib.hid hst
 have hcc := hst.cls.1
 have hlen := hst.len
 have HZ := Lib.hid hz
 have hz1 := hz.1
 have hz2 := hz.2
 have HT := Lib.hid ht
 clear hst
 by_cases hlow : n < 1 ∨ (cl.length : Int) < n
 ·
  have hv : Hid (pushP b.cls rs s n q = (rs, s, 0, 9)) := by
   show _ = _
   have : clAt b.cls n = none := clAt_none (by omega)
   rw [pushP, pushE, this]
   rfl
  rcases hlow with hlow | hlow
  ·
   clear hz1 hz2 hlen
   go_enter Tryz.func65, Tryz.ntmps65
   go_wp2_with (first
    | go_skip
    | (refine aA rfl rfl hF ?_; clear hF; intro gg ww hF; simp only [nf] at hF)
    | (refine aB rfl rfl hF rfl ?_; clear hF; intro gg ww hF; simp only [nf] at hF)
    | (refine iL (t := 3) hF rfl rfl fun ho hx hb => ?_; refine aC (v := .int _ _) ho hb hx hF rfl rfl ?_; clear ho hx hb)
    | (refine iL hF rfl rfl fun ho hx hb => ?_; (first | refine aL ho hb hx hF rfl rfl ?_ | refine aC (v := .slice _ _ _) ho hb hx hF rfl rfl ?_ | refine aC (v := .string _) ho hb hx hF rfl rfl ?_ | refine aC (v := .bool _) ho hb hx hF rfl rfl ?_); clear ho hx hb)
    | (refine iS hF rfl rfl fun ho hx hb => ?_; (first | refine aS ho hb hx hF rfl rfl rfl rfl ?_ | refine aT (v := .int _ _) ho hb hx hF rfl rfl rfl rfl ?_ | refine aT (v := .slice _ _ _) ho hb hx hF rfl rfl rfl rfl ?_ | refine aT (v := .bool _) ho hb hx hF rfl rfl rfl rfl ?_); clear ho hx hb hF; intro ww hF; simp only [nf] at hF)
    )
   refine rgw [] [_, _] hF (.cons_cons _ (.cons_cons _ (.cons _ (.cons _ (.cons _ .slnil))))) fun hF => ?_
   refine tkb 0 0 [] rfl rfl rfl rfl rfl ?_
   try simp only [nrm, Act.put]
   refine tkb 1 1 [] rfl rfl rfl rfl rfl ?_
   try simp only [nrm, Act.put]
   refine stw 2 3 hF rfl rfl rfl rfl rfl rfl rfl rfl ?_
   clear hF; intro ww hF; simp only [nf] at hF
   try simp only [nrm, Act.put]
   refine stw 3 4 hF rfl rfl rfl rfl rfl rfl rfl rfl ?_
   clear hF; intro ww hF; simp only [nf] at hF
   try simp only [nrm, Act.put]
   refine tkf 4 rfl ?_
   try simp only [nrm, Act.put]
   refine tkf 5 rfl ?_
   try simp only [nrm, Act.put]
   refine dnw ?_
   go_wp2_with (first
    | go_skip
    | (refine aA rfl rfl hF ?_; clear hF; intro gg ww hF; simp only [nf] at hF)
    | (refine aB rfl rfl hF rfl ?_; clear hF; intro gg ww hF; simp only [nf] at hF)
    | (refine iL (t := 3) hF rfl rfl fun ho hx hb => ?_; refine aC (v := .int _ _) ho hb hx hF rfl rfl ?_; clear ho hx hb)
    | (refine iL hF rfl rfl fun ho hx hb => ?_; (first | refine aL ho hb hx hF rfl rfl ?_ | refine aC (v := .slice _ _ _) ho hb hx hF rfl rfl ?_ | refine aC (v := .string _) ho hb hx hF rfl rfl ?_ | refine aC (v := .bool _) ho hb hx hF rfl rfl ?_); clear ho hx hb)
    | (refine iS hF rfl rfl fun ho hx hb => ?_; (first | refine aS ho hb hx hF rfl rfl rfl rfl ?_ | refine aT (v := .int _ _) ho hb hx hF rfl rfl rfl rfl ?_ | refine aT (v := .slice _ _ _) ho hb hx hF rfl rfl rfl rfl ?_ | refine aT (v := .bool _) ho hb hx hF rfl rfl rfl rfl ?_); clear ho hx hb hF; intro ww hF; simp only [nf] at hF)
    )
   refine bodyPost_ret (results4 Tryz.results65 (res_cell 3 hF rfl rfl rfl) (res_cell 4 hF rfl rfl rfl) (.tmp _) (.tmp _)) rfl ⟨_, by rw [hv.out]; rfl, ?_⟩
   rw [hv.out]
   exact StR.same (b := b) (cl := cl) HS.out.rs hF.below
  ·
   have hlow1 : ¬ n < 1 := by omega
   clear hlen hz1
   go_enter Tryz.func65, Tryz.ntmps65
   go_wp2_with (first
    | go_skip
    | (refine aA rfl rfl hF ?_; clear hF; intro gg ww hF; simp only [nf] at hF)
    | (refine aB rfl rfl hF rfl ?_; clear hF; intro gg ww hF; simp only [nf] at hF)
    | (refine iL (t := 3) hF rfl rfl fun ho hx hb => ?_; refine aC (v := .int _ _) ho hb hx hF rfl rfl ?_; clear ho hx hb)
    | (refine iL hF rfl rfl fun ho hx hb => ?_; (first | refine aL ho hb hx hF rfl rfl ?_ | refine aC (v := .slice _ _ _) ho hb hx hF rfl rfl ?_ | refine aC (v := .string _) ho hb hx hF rfl rfl ?_ | refine aC (v := .bool _) ho hb hx hF rfl rfl ?_); clear ho hx hb)
    | (refine iS hF rfl rfl fun ho hx hb => ?_; (first | refine aS ho hb hx hF rfl rfl rfl rfl ?_ | refine aT (v := .int _ _) ho hb hx hF rfl rfl rfl rfl ?_ | refine aT (v := .slice _ _ _) ho hb hx hF rfl rfl rfl rfl ?_ | refine aT (v := .bool _) ho hb hx hF rfl rfl rfl rfl ?_); clear ho hx hb hF; intro ww hF; simp only [nf] at hF)
    )
   refine rgw [] [_, _] hF (.cons_cons _ (.cons_cons _ (.cons _ (.cons _ (.cons _ .slnil))))) fun hF => ?_
   refine tkb 0 0 [] rfl rfl rfl rfl rfl ?_
   try simp only [nrm, Act.put]
   refine tkb 1 1 [] rfl rfl rfl rfl rfl ?_
   try simp only [nrm, Act.put]
   refine stw 2 3 hF rfl rfl rfl rfl rfl rfl rfl rfl ?_
   clear hF; intro ww hF; simp only [nf] at hF
   try simp only [nrm, Act.put]
   refine stw 3 4 hF rfl rfl rfl rfl rfl rfl rfl rfl ?_
   clear hF; intro ww hF; simp only [nf] at hF
   try simp only [nrm, Act.put]
   refine tkf 4 rfl ?_
   try simp only [nrm, Act.put]
   refine tkf 5 rfl ?_
   try simp only [nrm, Act.put]
   refine dnw ?_
   go_wp2_with (first
    | go_skip
    | (refine aA rfl rfl hF ?_; clear hF; intro gg ww hF; simp only [nf] at hF)
    | (refine aB rfl rfl hF rfl ?_; clear hF; intro gg ww hF; simp only [nf] at hF)
    | (refine iL (t := 3) hF rfl rfl fun ho hx hb => ?_; refine aC (v := .int _ _) ho hb hx hF rfl rfl ?_; clear ho hx hb)
    | (refine iL hF rfl rfl fun ho hx hb => ?_; (first | refine aL ho hb hx hF rfl rfl ?_ | refine aC (v := .slice _ _ _) ho hb hx hF rfl rfl ?_ | refine aC (v := .string _) ho hb hx hF rfl rfl ?_ | refine aC (v := .bool _) ho hb hx hF rfl rfl ?_); clear ho hx hb)
    | (refine iS hF rfl rfl fun ho hx hb => ?_; (first | refine aS ho hb hx hF rfl rfl rfl rfl ?_ | refine aT (v := .int _ _) ho hb hx hF rfl rfl rfl rfl ?_ | refine aT (v := .slice _ _ _) ho hb hx hF rfl rfl rfl rfl ?_ | refine aT (v := .bool _) ho hb hx hF rfl rfl rfl rfl ?_); clear ho hx hb hF; intro ww hF; simp only [nf] at hF)
    )
   refine bodyPost_ret (results4 Tryz.results65 (res_cell 3 hF rfl rfl rfl) (res_cell 4 hF rfl rfl rfl) (.tmp _) (.tmp _)) rfl ⟨_, by rw [hv.out]; rfl, ?_⟩
   rw [hv.out]
   exact StR.same (b := b) (cl := cl) HS.out.rs hF.below
 ·
  obtain ⟨k, rfl⟩ : ∃ k : Nat, n = (k : Int) + 1 := ⟨(n - 1).toNat, by omega⟩
  have hkl : k < cl.length := by omega
  obtain ⟨f, hfk⟩ : ∃ f, cl[k]? = some f := ⟨_, List.getElem?_eq_getElem hkl⟩
  have hca : clAt b.cls ((k : Int) + 1) = some (clP f) := clAt_get HS.out hfk
  have hfm : f ∈ cl := List.mem_of_getElem? hfk
  have hfo : ClOk (clP f) := hcl _ (by rw [← HS.out.pl]; exact List.mem_map.2 ⟨f, hfm, rfl⟩)
  obtain ⟨ad, rfl⟩ : ∃ ad, CA = some ad := by obtain ⟨ad, h, _⟩ := HS.out.cls.2.1.2 (by omega); exact ⟨ad, h⟩
  have cck := Lib.hid (fun W (hW : Below w.heap.size w W) => rcheck_walk f q W ((HS.out.cls.2.2 f hfm).below hW) hfo.1 hfo.2 hq)
  have hrow := Lib.hid (fun W (hW : Below w.heap.size w W) => cl_at (HS.out.cls.below hW).2.1 hfk)
  have cn := Lib.hid (fun W => rnonce_walk s W (by omega))
  have cr := Lib.hid (fun W h => rroom_walk rs RA rc s.now 1 W h)
  have hk0 : ¬ (k : Int) + 1 < 1 := by omega
  have hk1 : ¬ (cl.length : Int) < (k : Int) + 1 := by omega
  have hk2 : IntKind.i64.wrap ((k : Int) + 1 - 1) = (k : Int) := by rw [IntKind.wrap_i64]; omega
  have hk3 : (k : Int) < (cl.length : Int) := by omega
  have hk4 : (k : Int) + 1 - 1 = (k : Int) := by omega
  have hk5 : IntKind.i64.wrap (k : Int) = (k : Int) := by rw [IntKind.wrap_i64]; omega
  have HVE : Hid (pushE b.cls rs s ((k : Int) + 1) q = if checkE (clP f) q ≠ 0 then checkE (clP f) q else if drawB s = false ∨ roomI rs s.now 1 = 0 then 16 else putC rs s.now (recOf 1 s.n (untilI s.now 60) false ((k : Int) + 1) 0 0 0 q)) := by
   show _ = _
   rw [pushE, hca]
  have HVP : Hid (pushP b.cls rs s ((k : Int) + 1) q = if pushE b.cls rs s ((k : Int) + 1) q = 0 then (putL rs s.now (recOf 1 s.n (untilI s.now 60) false ((k : Int) + 1) 0 0 0 q), drawS s, s.n, 0) else (rs, s, 0, pushE b.cls rs s ((k : Int) + 1) q)) := rfl
  generalize checkE (clP f) q = ce at cck HVE
  clear hlow hca hfm hfo hcl hq hlen hkl hz hz1
  rcases zero_or ce with rfl | ⟨hc1, hc2⟩
  ·
   by_cases hbad : drawB s = false ∨ roomI rs s.now 1 = 0
   ·
    have hv : Hid (pushP b.cls rs s ((k : Int) + 1) q = (rs, s, 0, 16)) := by
     have e0 : pushE b.cls rs s ((k : Int) + 1) q = 16 := by rw [HVE.out, if_neg (fun h => h rfl), if_pos hbad]
     show _ = _
     rw [HVP.out, e0, if_neg (by decide)]
    have hcase : drawB s = false ∨ (drawB s = true ∧ roomI rs s.now 1 = 0) := by
     cases h1 : drawB s
     ·
      exact .inl rfl
     ·
      refine .inr ⟨rfl, ?_⟩
      rcases hbad with h | h
      ·
       rw [h1] at h; cases h
      ·
       exact h
    clear hbad HVE HVP
    rcases hcase with h1 | ⟨h1, h2⟩
    ·
     rw [h1] at cn
     clear h1
     go_enter Tryz.func65, Tryz.ntmps65
     go_wp2_with (first
      | go_skip
      | (refine aA rfl rfl hF ?_; clear hF; intro gg ww hF; simp only [nf] at hF)
      | (refine aB rfl rfl hF rfl ?_; clear hF; intro gg ww hF; simp only [nf] at hF)
      | (refine iL (t := 3) hF rfl rfl fun ho hx hb => ?_; refine aC (v := .int _ _) ho hb hx hF rfl rfl ?_; clear ho hx hb)
      | (refine iL hF rfl rfl fun ho hx hb => ?_; (first | refine aL ho hb hx hF rfl rfl ?_ | refine aC (v := .slice _ _ _) ho hb hx hF rfl rfl ?_ | refine aC (v := .string _) ho hb hx hF rfl rfl ?_ | refine aC (v := .bool _) ho hb hx hF rfl rfl ?_); clear ho hx hb)
      | (refine iS hF rfl rfl fun ho hx hb => ?_; (first | refine aS ho hb hx hF rfl rfl rfl rfl ?_ | refine aT (v := .int _ _) ho hb hx hF rfl rfl rfl rfl ?_ | refine aT (v := .slice _ _ _) ho hb hx hF rfl rfl rfl rfl ?_ | refine aT (v := .bool _) ho hb hx hF rfl rfl rfl rfl ?_); clear ho hx hb hF; intro ww hF; simp only [nf] at hF)
      )
     refine rgw [] _ hF (List.Sublist.refl _) fun hF => ?_
     refine tkf 0 rfl ?_
     try simp only [nrm, Act.put]
     refine tkc 1 0 [] (v := .slice _ _ _) rfl rfl rfl rfl rfl ?_
     try simp only [nrm, Act.put]
     refine tkf 2 rfl ?_
     try simp only [nrm, Act.put]
     refine tkf 3 rfl ?_
     try simp only [nrm, Act.put]
     refine tkf 4 rfl ?_
     try simp only [nrm, Act.put]
     refine tkw 5 [] rfl ?_ (v := .agg f.arr) (hv := fun W hW => exec_row rfl rfl (hrow.out W hW.below) rfl)
     try simp only [nrm, Act.put]
     refine tkb 6 2 [] rfl rfl rfl rfl rfl ?_
     try simp only [nrm, Act.put]
     refine rdw 7 rfl fun K hK => ?_
     go_simp
     go_at_call 95
     with_reducible refine (cck.out _ hF.below).mono ?_
     rintro _ ww ⟨rfl, hbn⟩
     replace hF := hF.call hbn
     refine hK.out _ _ (by (first | exact HoldA.past rfl | exact HoldA.of (by assumption) _ | exact HoldA.of (Fr.sub hF (by repeat (first | exact List.Sublist.slnil | apply List.Sublist.cons_cons | apply List.Sublist.cons))) _)) (fun _ => ?_)
     clear hK K; try clear hbn
     try simp only [nrm, Act.put]
     refine tkf 8 rfl ?_
     try simp only [nrm, Act.put]
     refine dnw ?_
     go_wp2_with (first
      | go_skip
      | (refine aA rfl rfl hF ?_; clear hF; intro gg ww hF; simp only [nf] at hF)
      | (refine aB rfl rfl hF rfl ?_; clear hF; intro gg ww hF; simp only [nf] at hF)
      | (refine iL (t := 3) hF rfl rfl fun ho hx hb => ?_; refine aC (v := .int _ _) ho hb hx hF rfl rfl ?_; clear ho hx hb)
      | (refine iL hF rfl rfl fun ho hx hb => ?_; (first | refine aL ho hb hx hF rfl rfl ?_ | refine aC (v := .slice _ _ _) ho hb hx hF rfl rfl ?_ | refine aC (v := .string _) ho hb hx hF rfl rfl ?_ | refine aC (v := .bool _) ho hb hx hF rfl rfl ?_); clear ho hx hb)
      | (refine iS hF rfl rfl fun ho hx hb => ?_; (first | refine aS ho hb hx hF rfl rfl rfl rfl ?_ | refine aT (v := .int _ _) ho hb hx hF rfl rfl rfl rfl ?_ | refine aT (v := .slice _ _ _) ho hb hx hF rfl rfl rfl rfl ?_ | refine aT (v := .bool _) ho hb hx hF rfl rfl rfl rfl ?_); clear ho hx hb hF; intro ww hF; simp only [nf] at hF)
      )
     refine (cn.out _).mono ?_
     rintro _ w2 ⟨rfl, hbn⟩
     replace hF := hF.call hbn
     clear hbn
     go_wp2_with (first
      | go_skip
      | (refine aA rfl rfl hF ?_; clear hF; intro gg ww hF; simp only [nf] at hF)
      | (refine aB rfl rfl hF rfl ?_; clear hF; intro gg ww hF; simp only [nf] at hF)
      | (refine iL (t := 3) hF rfl rfl fun ho hx hb => ?_; refine aC (v := .int _ _) ho hb hx hF rfl rfl ?_; clear ho hx hb)
      | (refine iL hF rfl rfl fun ho hx hb => ?_; (first | refine aL ho hb hx hF rfl rfl ?_ | refine aC (v := .slice _ _ _) ho hb hx hF rfl rfl ?_ | refine aC (v := .string _) ho hb hx hF rfl rfl ?_ | refine aC (v := .bool _) ho hb hx hF rfl rfl ?_); clear ho hx hb)
      | (refine iS hF rfl rfl fun ho hx hb => ?_; (first | refine aS ho hb hx hF rfl rfl rfl rfl ?_ | refine aT (v := .int _ _) ho hb hx hF rfl rfl rfl rfl ?_ | refine aT (v := .slice _ _ _) ho hb hx hF rfl rfl rfl rfl ?_ | refine aT (v := .bool _) ho hb hx hF rfl rfl rfl rfl ?_); clear ho hx hb hF; intro ww hF; simp only [nf] at hF)
      )
     refine rgw [] [_, _] hF (.cons_cons _ (.cons_cons _ (.cons _ (.cons _ (.cons _ (.cons _ .slnil)))))) fun hF => ?_
     refine tkb 0 0 [] rfl rfl rfl rfl rfl ?_
     try simp only [nrm, Act.put]
     refine tkb 1 1 [] rfl rfl rfl rfl rfl ?_
     try simp only [nrm, Act.put]
     refine tkf 2 rfl ?_
     try simp only [nrm, Act.put]
     refine stw 3 3 hF rfl rfl rfl rfl rfl rfl rfl rfl ?_
     clear hF; intro ww hF; simp only [nf] at hF
     try simp only [nrm, Act.put]
     refine stw 4 4 hF rfl rfl rfl rfl rfl rfl rfl rfl ?_
     clear hF; intro ww hF; simp only [nf] at hF
     try simp only [nrm, Act.put]
     refine tkf 5 rfl ?_
     try simp only [nrm, Act.put]
     refine tkf 6 rfl ?_
     try simp only [nrm, Act.put]
     refine dnw ?_
     go_wp2_with (first
      | go_skip
      | (refine aA rfl rfl hF ?_; clear hF; intro gg ww hF; simp only [nf] at hF)
      | (refine aB rfl rfl hF rfl ?_; clear hF; intro gg ww hF; simp only [nf] at hF)
      | (refine iL (t := 3) hF rfl rfl fun ho hx hb => ?_; refine aC (v := .int _ _) ho hb hx hF rfl rfl ?_; clear ho hx hb)
      | (refine iL hF rfl rfl fun ho hx hb => ?_; (first | refine aL ho hb hx hF rfl rfl ?_ | refine aC (v := .slice _ _ _) ho hb hx hF rfl rfl ?_ | refine aC (v := .string _) ho hb hx hF rfl rfl ?_ | refine aC (v := .bool _) ho hb hx hF rfl rfl ?_); clear ho hx hb)
      | (refine iS hF rfl rfl fun ho hx hb => ?_; (first | refine aS ho hb hx hF rfl rfl rfl rfl ?_ | refine aT (v := .int _ _) ho hb hx hF rfl rfl rfl rfl ?_ | refine aT (v := .slice _ _ _) ho hb hx hF rfl rfl rfl rfl ?_ | refine aT (v := .bool _) ho hb hx hF rfl rfl rfl rfl ?_); clear ho hx hb hF; intro ww hF; simp only [nf] at hF)
      )
     refine bodyPost_ret (results4 Tryz.results65 (res_cell 3 hF rfl rfl rfl) (res_cell 4 hF rfl rfl rfl) (.tmp _) (.tmp _)) rfl ⟨_, by rw [hv.out]; rfl, ?_⟩
     rw [hv.out]
     exact StR.same (b := b) (cl := cl) HS.out.rs hF.below
    ·
     rw [h1] at cn
     rw [h2] at cr
     clear h1 h2
     go_enter Tryz.func65, Tryz.ntmps65
     go_wp2_with (first
      | go_skip
      | (refine aA rfl rfl hF ?_; clear hF; intro gg ww hF; simp only [nf] at hF)
      | (refine aB rfl rfl hF rfl ?_; clear hF; intro gg ww hF; simp only [nf] at hF)
      | (refine iL (t := 3) hF rfl rfl fun ho hx hb => ?_; refine aC (v := .int _ _) ho hb hx hF rfl rfl ?_; clear ho hx hb)
      | (refine iL hF rfl rfl fun ho hx hb => ?_; (first | refine aL ho hb hx hF rfl rfl ?_ | refine aC (v := .slice _ _ _) ho hb hx hF rfl rfl ?_ | refine aC (v := .string _) ho hb hx hF rfl rfl ?_ | refine aC (v := .bool _) ho hb hx hF rfl rfl ?_); clear ho hx hb)
      | (refine iS hF rfl rfl fun ho hx hb => ?_; (first | refine aS ho hb hx hF rfl rfl rfl rfl ?_ | refine aT (v := .int _ _) ho hb hx hF rfl rfl rfl rfl ?_ | refine aT (v := .slice _ _ _) ho hb hx hF rfl rfl rfl rfl ?_ | refine aT (v := .bool _) ho hb hx hF rfl rfl rfl rfl ?_); clear ho hx hb hF; intro ww hF; simp only [nf] at hF)
      )
     refine rgw [] _ hF (List.Sublist.refl _) fun hF => ?_
     refine tkf 0 rfl ?_
     try simp only [nrm, Act.put]
     refine tkc 1 0 [] (v := .slice _ _ _) rfl rfl rfl rfl rfl ?_
     try simp only [nrm, Act.put]
     refine tkf 2 rfl ?_
     try simp only [nrm, Act.put]
     refine tkf 3 rfl ?_
     try simp only [nrm, Act.put]
     refine tkf 4 rfl ?_
     try simp only [nrm, Act.put]
     refine tkw 5 [] rfl ?_ (v := .agg f.arr) (hv := fun W hW => exec_row rfl rfl (hrow.out W hW.below) rfl)
     try simp only [nrm, Act.put]
     refine tkb 6 2 [] rfl rfl rfl rfl rfl ?_
     try simp only [nrm, Act.put]
     refine rdw 7 rfl fun K hK => ?_
     go_simp
     go_at_call 95
     with_reducible refine (cck.out _ hF.below).mono ?_
     rintro _ ww ⟨rfl, hbn⟩
     replace hF := hF.call hbn
     refine hK.out _ _ (by (first | exact HoldA.past rfl | exact HoldA.of (by assumption) _ | exact HoldA.of (Fr.sub hF (by repeat (first | exact List.Sublist.slnil | apply List.Sublist.cons_cons | apply List.Sublist.cons))) _)) (fun _ => ?_)
     clear hK K; try clear hbn
     try simp only [nrm, Act.put]
     refine tkf 8 rfl ?_
     try simp only [nrm, Act.put]
     refine dnw ?_
     go_wp2_with (first
      | go_skip
      | (refine aA rfl rfl hF ?_; clear hF; intro gg ww hF; simp only [nf] at hF)
      | (refine aB rfl rfl hF rfl ?_; clear hF; intro gg ww hF; simp only [nf] at hF)
      | (refine iL (t := 3) hF rfl rfl fun ho hx hb => ?_; refine aC (v := .int _ _) ho hb hx hF rfl rfl ?_; clear ho hx hb)
      | (refine iL hF rfl rfl fun ho hx hb => ?_; (first | refine aL ho hb hx hF rfl rfl ?_ | refine aC (v := .slice _ _ _) ho hb hx hF rfl rfl ?_ | refine aC (v := .string _) ho hb hx hF rfl rfl ?_ | refine aC (v := .bool _) ho hb hx hF rfl rfl ?_); clear ho hx hb)
      | (refine iS hF rfl rfl fun ho hx hb => ?_; (first | refine aS ho hb hx hF rfl rfl rfl rfl ?_ | refine aT (v := .int _ _) ho hb hx hF rfl rfl rfl rfl ?_ | refine aT (v := .slice _ _ _) ho hb hx hF rfl rfl rfl rfl ?_ | refine aT (v := .bool _) ho hb hx hF rfl rfl rfl rfl ?_); clear ho hx hb hF; intro ww hF; simp only [nf] at hF)
      )
     refine (cn.out _).mono ?_
     rintro _ w2 ⟨rfl, hbn⟩
     replace hF := hF.call hbn
     clear hbn
     go_wp2_with (first
      | go_skip
      | (refine aA rfl rfl hF ?_; clear hF; intro gg ww hF; simp only [nf] at hF)
      | (refine aB rfl rfl hF rfl ?_; clear hF; intro gg ww hF; simp only [nf] at hF)
      | (refine iL (t := 3) hF rfl rfl fun ho hx hb => ?_; refine aC (v := .int _ _) ho hb hx hF rfl rfl ?_; clear ho hx hb)
      | (refine iL hF rfl rfl fun ho hx hb => ?_; (first | refine aL ho hb hx hF rfl rfl ?_ | refine aC (v := .slice _ _ _) ho hb hx hF rfl rfl ?_ | refine aC (v := .string _) ho hb hx hF rfl rfl ?_ | refine aC (v := .bool _) ho hb hx hF rfl rfl ?_); clear ho hx hb)
      | (refine iS hF rfl rfl fun ho hx hb => ?_; (first | refine aS ho hb hx hF rfl rfl rfl rfl ?_ | refine aT (v := .int _ _) ho hb hx hF rfl rfl rfl rfl ?_ | refine aT (v := .slice _ _ _) ho hb hx hF rfl rfl rfl rfl ?_ | refine aT (v := .bool _) ho hb hx hF rfl rfl rfl rfl ?_); clear ho hx hb hF; intro ww hF; simp only [nf] at hF)
      )
     refine (cr.out _ hF.data).mono ?_
     rintro _ w3 ⟨rfl, hbn⟩
     replace hF := hF.call hbn
     clear hbn
     go_wp2_with (first
      | go_skip
      | (refine aA rfl rfl hF ?_; clear hF; intro gg ww hF; simp only [nf] at hF)
      | (refine aB rfl rfl hF rfl ?_; clear hF; intro gg ww hF; simp only [nf] at hF)
      | (refine iL (t := 3) hF rfl rfl fun ho hx hb => ?_; refine aC (v := .int _ _) ho hb hx hF rfl rfl ?_; clear ho hx hb)
      | (refine iL hF rfl rfl fun ho hx hb => ?_; (first | refine aL ho hb hx hF rfl rfl ?_ | refine aC (v := .slice _ _ _) ho hb hx hF rfl rfl ?_ | refine aC (v := .string _) ho hb hx hF rfl rfl ?_ | refine aC (v := .bool _) ho hb hx hF rfl rfl ?_); clear ho hx hb)
      | (refine iS hF rfl rfl fun ho hx hb => ?_; (first | refine aS ho hb hx hF rfl rfl rfl rfl ?_ | refine aT (v := .int _ _) ho hb hx hF rfl rfl rfl rfl ?_ | refine aT (v := .slice _ _ _) ho hb hx hF rfl rfl rfl rfl ?_ | refine aT (v := .bool _) ho hb hx hF rfl rfl rfl rfl ?_); clear ho hx hb hF; intro ww hF; simp only [nf] at hF)
      )
     refine rgw [] [_, _] hF (.cons_cons _ (.cons_cons _ (.cons _ (.cons _ (.cons _ (.cons _ .slnil)))))) fun hF => ?_
     refine tkb 0 0 [] rfl rfl rfl rfl rfl ?_
     try simp only [nrm, Act.put]
     refine tkb 1 1 [] rfl rfl rfl rfl rfl ?_
     try simp only [nrm, Act.put]
     refine tkf 2 rfl ?_
     try simp only [nrm, Act.put]
     refine stw 3 3 hF rfl rfl rfl rfl rfl rfl rfl rfl ?_
     clear hF; intro ww hF; simp only [nf] at hF
     try simp only [nrm, Act.put]
     refine stw 4 4 hF rfl rfl rfl rfl rfl rfl rfl rfl ?_
     clear hF; intro ww hF; simp only [nf] at hF
     try simp only [nrm, Act.put]
     refine tkf 5 rfl ?_
     try simp only [nrm, Act.put]
     refine tkf 6 rfl ?_
     try simp only [nrm, Act.put]
     refine dnw ?_
     go_wp2_with (first
      | go_skip
      | (refine aA rfl rfl hF ?_; clear hF; intro gg ww hF; simp only [nf] at hF)
      | (refine aB rfl rfl hF rfl ?_; clear hF; intro gg ww hF; simp only [nf] at hF)
      | (refine iL (t := 3) hF rfl rfl fun ho hx hb => ?_; refine aC (v := .int _ _) ho hb hx hF rfl rfl ?_; clear ho hx hb)
      | (refine iL hF rfl rfl fun ho hx hb => ?_; (first | refine aL ho hb hx hF rfl rfl ?_ | refine aC (v := .slice _ _ _) ho hb hx hF rfl rfl ?_ | refine aC (v := .string _) ho hb hx hF rfl rfl ?_ | refine aC (v := .bool _) ho hb hx hF rfl rfl ?_); clear ho hx hb)
      | (refine iS hF rfl rfl fun ho hx hb => ?_; (first | refine aS ho hb hx hF rfl rfl rfl rfl ?_ | refine aT (v := .int _ _) ho hb hx hF rfl rfl rfl rfl ?_ | refine aT (v := .slice _ _ _) ho hb hx hF rfl rfl rfl rfl ?_ | refine aT (v := .bool _) ho hb hx hF rfl rfl rfl rfl ?_); clear ho hx hb hF; intro ww hF; simp only [nf] at hF)
      )
     refine bodyPost_ret (results4 Tryz.results65 (res_cell 3 hF rfl rfl rfl) (res_cell 4 hF rfl rfl rfl) (.tmp _) (.tmp _)) rfl ⟨_, by rw [hv.out]; rfl, ?_⟩
     rw [hv.out]
     exact StR.same (b := b) (cl := cl) HS.out.rs hF.below
   ·
    have h1 : drawB s = true := by cases h : drawB s; exact absurd (.inl h) hbad; rfl
    have h2 : (roomI rs s.now 1 == 0) = false := by rw [beq_eq_false_iff_ne]; exact fun h => hbad (.inr h)
    obtain ⟨d1, k1, _⟩ := drew_on h1
    rw [h1, k1] at cn
    have hpe : Hid (pushE b.cls rs s ((k : Int) + 1) q = putC rs s.now (recOf 1 s.n (untilI s.now 60) false ((k : Int) + 1) 0 0 0 q)) := by
     show _ = _
     rw [HVE.out, if_neg (fun h => h rfl), if_neg hbad]
    have cp := Lib.hid (fun W A c h => rput_walk rs A c s.now (recOf 1 s.n (untilI s.now 60) false ((k : Int) + 1) 0 0 0 q) W h (by omega))
    generalize hL : putL rs s.now (recOf 1 s.n (untilI s.now 60) false ((k : Int) + 1) 0 0 0 q) = L1 at cp HVP
    generalize hE : putC rs s.now (recOf 1 s.n (untilI s.now 60) false ((k : Int) + 1) 0 0 0 q) = e1 at cp hpe
    rw [push_arr] at cp
    have cl1 := Lib.hid (fun W => rlife_walk 1 W)
    have cu1 := Lib.hid (fun W => runtil_walk s.now (lifeI 1) W HT.out.1 (by have := HT.out.2; omega) (by decide))
    rw [show lifeI 1 = 60 from rfl] at cl1 cu1
    have hput : e1 ≠ 0 → L1 = rs := fun h => by rw [← hL, putL, if_neg (by rw [hE]; exact h)]
    clear hbad h1 k1 d1 hE hL
    rcases zero_or e1 with rfl | ⟨he1, he2⟩
    ·
     have hv : Hid (pushP b.cls rs s ((k : Int) + 1) q = (L1, drawS s, s.n, 0)) := by show _ = _; rw [HVP.out, hpe.out, if_pos rfl]
     clear hput HVE HVP hpe
     go_enter Tryz.func65, Tryz.ntmps65
     go_wp2_with (first
      | go_skip
      | (refine aA rfl rfl hF ?_; clear hF; intro gg ww hF; simp only [nf] at hF)
      | (refine aB rfl rfl hF rfl ?_; clear hF; intro gg ww hF; simp only [nf] at hF)
      | (refine iL (t := 3) hF rfl rfl fun ho hx hb => ?_; refine aC (v := .int _ _) ho hb hx hF rfl rfl ?_; clear ho hx hb)
      | (refine iL hF rfl rfl fun ho hx hb => ?_; (first | refine aL ho hb hx hF rfl rfl ?_ | refine aC (v := .slice _ _ _) ho hb hx hF rfl rfl ?_ | refine aC (v := .string _) ho hb hx hF rfl rfl ?_ | refine aC (v := .bool _) ho hb hx hF rfl rfl ?_); clear ho hx hb)
      | (refine iS hF rfl rfl fun ho hx hb => ?_; (first | refine aS ho hb hx hF rfl rfl rfl rfl ?_ | refine aT (v := .int _ _) ho hb hx hF rfl rfl rfl rfl ?_ | refine aT (v := .slice _ _ _) ho hb hx hF rfl rfl rfl rfl ?_ | refine aT (v := .bool _) ho hb hx hF rfl rfl rfl rfl ?_); clear ho hx hb hF; intro ww hF; simp only [nf] at hF)
      )
     refine rgw [] _ hF (List.Sublist.refl _) fun hF => ?_
     refine tkf 0 rfl ?_
     try simp only [nrm, Act.put]
     refine tkc 1 0 [] (v := .slice _ _ _) rfl rfl rfl rfl rfl ?_
     try simp only [nrm, Act.put]
     refine tkf 2 rfl ?_
     try simp only [nrm, Act.put]
     refine tkf 3 rfl ?_
     try simp only [nrm, Act.put]
     refine tkf 4 rfl ?_
     try simp only [nrm, Act.put]
     refine tkw 5 [] rfl ?_ (v := .agg f.arr) (hv := fun W hW => exec_row rfl rfl (hrow.out W hW.below) rfl)
     try simp only [nrm, Act.put]
     refine tkb 6 2 [] rfl rfl rfl rfl rfl ?_
     try simp only [nrm, Act.put]
     refine rdw 7 rfl fun K hK => ?_
     go_simp
     go_at_call 95
     with_reducible refine (cck.out _ hF.below).mono ?_
     rintro _ ww ⟨rfl, hbn⟩
     replace hF := hF.call hbn
     refine hK.out _ _ (by (first | exact HoldA.past rfl | exact HoldA.of (by assumption) _ | exact HoldA.of (Fr.sub hF (by repeat (first | exact List.Sublist.slnil | apply List.Sublist.cons_cons | apply List.Sublist.cons))) _)) (fun _ => ?_)
     clear hK K; try clear hbn
     try simp only [nrm, Act.put]
     refine tkf 8 rfl ?_
     try simp only [nrm, Act.put]
     refine dnw ?_
     go_wp2_with (first
      | go_skip
      | (refine aA rfl rfl hF ?_; clear hF; intro gg ww hF; simp only [nf] at hF)
      | (refine aB rfl rfl hF rfl ?_; clear hF; intro gg ww hF; simp only [nf] at hF)
      | (refine iL (t := 3) hF rfl rfl fun ho hx hb => ?_; refine aC (v := .int _ _) ho hb hx hF rfl rfl ?_; clear ho hx hb)
      | (refine iL hF rfl rfl fun ho hx hb => ?_; (first | refine aL ho hb hx hF rfl rfl ?_ | refine aC (v := .slice _ _ _) ho hb hx hF rfl rfl ?_ | refine aC (v := .string _) ho hb hx hF rfl rfl ?_ | refine aC (v := .bool _) ho hb hx hF rfl rfl ?_); clear ho hx hb)
      | (refine iS hF rfl rfl fun ho hx hb => ?_; (first | refine aS ho hb hx hF rfl rfl rfl rfl ?_ | refine aT (v := .int _ _) ho hb hx hF rfl rfl rfl rfl ?_ | refine aT (v := .slice _ _ _) ho hb hx hF rfl rfl rfl rfl ?_ | refine aT (v := .bool _) ho hb hx hF rfl rfl rfl rfl ?_); clear ho hx hb hF; intro ww hF; simp only [nf] at hF)
      )
     refine (cn.out _).mono ?_
     rintro _ w2 ⟨rfl, hbn⟩
     replace hF := hF.call hbn
     clear hbn
     go_wp2_with (first
      | go_skip
      | (refine aA rfl rfl hF ?_; clear hF; intro gg ww hF; simp only [nf] at hF)
      | (refine aB rfl rfl hF rfl ?_; clear hF; intro gg ww hF; simp only [nf] at hF)
      | (refine iL (t := 3) hF rfl rfl fun ho hx hb => ?_; refine aC (v := .int _ _) ho hb hx hF rfl rfl ?_; clear ho hx hb)
      | (refine iL hF rfl rfl fun ho hx hb => ?_; (first | refine aL ho hb hx hF rfl rfl ?_ | refine aC (v := .slice _ _ _) ho hb hx hF rfl rfl ?_ | refine aC (v := .string _) ho hb hx hF rfl rfl ?_ | refine aC (v := .bool _) ho hb hx hF rfl rfl ?_); clear ho hx hb)
      | (refine iS hF rfl rfl fun ho hx hb => ?_; (first | refine aS ho hb hx hF rfl rfl rfl rfl ?_ | refine aT (v := .int _ _) ho hb hx hF rfl rfl rfl rfl ?_ | refine aT (v := .slice _ _ _) ho hb hx hF rfl rfl rfl rfl ?_ | refine aT (v := .bool _) ho hb hx hF rfl rfl rfl rfl ?_); clear ho hx hb hF; intro ww hF; simp only [nf] at hF)
      )
     refine (cr.out _ hF.data).mono ?_
     rintro _ w3 ⟨rfl, hbn⟩
     replace hF := hF.call hbn
     clear hbn
     go_wp2_with (first
      | go_skip
      | (refine aA rfl rfl hF ?_; clear hF; intro gg ww hF; simp only [nf] at hF)
      | (refine aB rfl rfl hF rfl ?_; clear hF; intro gg ww hF; simp only [nf] at hF)
      | (refine iL (t := 3) hF rfl rfl fun ho hx hb => ?_; refine aC (v := .int _ _) ho hb hx hF rfl rfl ?_; clear ho hx hb)
      | (refine iL hF rfl rfl fun ho hx hb => ?_; (first | refine aL ho hb hx hF rfl rfl ?_ | refine aC (v := .slice _ _ _) ho hb hx hF rfl rfl ?_ | refine aC (v := .string _) ho hb hx hF rfl rfl ?_ | refine aC (v := .bool _) ho hb hx hF rfl rfl ?_); clear ho hx hb)
      | (refine iS hF rfl rfl fun ho hx hb => ?_; (first | refine aS ho hb hx hF rfl rfl rfl rfl ?_ | refine aT (v := .int _ _) ho hb hx hF rfl rfl rfl rfl ?_ | refine aT (v := .slice _ _ _) ho hb hx hF rfl rfl rfl rfl ?_ | refine aT (v := .bool _) ho hb hx hF rfl rfl rfl rfl ?_); clear ho hx hb hF; intro ww hF; simp only [nf] at hF)
      )
     refine rgw [] _ hF (List.Sublist.refl _) fun hF => ?_
     refine tkf 0 rfl ?_
     try simp only [nrm, Act.put]
     refine tkc 1 0 [] (v := .slice _ _ _) rfl rfl rfl rfl rfl ?_
     try simp only [nrm, Act.put]
     refine tkf 2 rfl ?_
     try simp only [nrm, Act.put]
     refine tkc 3 1 [] (v := .int _ _) rfl rfl rfl rfl rfl ?_
     try simp only [nrm, Act.put]
     refine tkf 4 rfl ?_
     try simp only [nrm, Act.put]
     refine tkf 5 rfl ?_
     try simp only [nrm, Act.put]
     refine tkc 6 1 [] (v := .int _ _) rfl rfl rfl rfl rfl ?_
     try simp only [nrm, Act.put]
     refine tkf 9 rfl ?_
     try simp only [nrm, Act.put]
     refine tkb 10 2 [] rfl rfl rfl rfl rfl ?_
     try simp only [nrm, Act.put]
     refine rdw 7 rfl fun K hK => ?_
     go_simp
     go_at_call 87
     with_reducible refine (cl1.out _).mono ?_
     rintro _ ww ⟨rfl, hbn⟩
     replace hF := hF.call hbn
     refine hK.out _ _ (by (first | exact HoldA.past rfl | exact HoldA.of (by assumption) _ | exact HoldA.of (Fr.sub hF (by repeat (first | exact List.Sublist.slnil | apply List.Sublist.cons_cons | apply List.Sublist.cons))) _)) (fun _ => ?_)
     clear hK K; try clear hbn
     try simp only [nrm, Act.put]
     refine rdw 8 rfl fun K hK => ?_
     go_simp
     go_at_call 52
     with_reducible refine (cu1.out _).mono ?_
     rintro _ ww ⟨rfl, rfl⟩
     skip
     refine hK.out _ _ (by (first | exact HoldA.past rfl | exact HoldA.of (by assumption) _ | exact HoldA.of (Fr.sub hF (by repeat (first | exact List.Sublist.slnil | apply List.Sublist.cons_cons | apply List.Sublist.cons))) _)) (fun _ => ?_)
     clear hK K; try clear hbn
     try simp only [nrm, Act.put]
     refine tkf 11 rfl ?_ (v := .agg #[.int .i64 1, .int .i64 s.n, .int .i64 (untilI s.now 60), .bool false, .int .i64 ((k : Int) + 1), .int .i64 0, .int .i64 0, .int .i64 0, .string q.t1, .string q.t2, .string q.t3, .string q.t4, .string q.t5, .string q.t6, .string q.t7]) (hv := fun w => by kernel_rfl)
     try simp only [nrm, Act.put]
     refine rdw 12 rfl fun K hK => ?_
     go_simp
     go_at_call 86
     with_reducible refine (cp.out _ _ _ hF.data).mono ?_
     rintro _ ww ⟨A4, c4, rfl, hr4, hbn, hn4⟩
     have g4 := hF.below.size
     have hF0 := hF.call hbn
     replace hF := hF.rows hbn hr4 hn4 (fun _ h => h)
     refine hK.out _ _ (by (first | exact HoldA.past rfl | exact HoldA.of (by assumption) _ | exact HoldA.of (Fr.sub hF (by repeat (first | exact List.Sublist.slnil | apply List.Sublist.cons_cons | apply List.Sublist.cons))) _)) (fun _ => ?_)
     clear hK K; try clear hbn
     try simp only [nrm, Act.put]
     refine tkf 13 rfl ?_
     try simp only [nrm, Act.put]
     refine tkf 14 rfl ?_
     try simp only [nrm, Act.put]
     refine tkf 15 rfl ?_
     try simp only [nrm, Act.put]
     refine tkf 16 rfl ?_
     try simp only [nrm, Act.put]
     refine tkf 17 rfl ?_
     try simp only [nrm, Act.put]
     refine dnw ?_
     go_wp2_with (first
      | go_skip
      | (refine aA rfl rfl hF ?_; clear hF; intro gg ww hF; simp only [nf] at hF)
      | (refine aB rfl rfl hF rfl ?_; clear hF; intro gg ww hF; simp only [nf] at hF)
      | (refine iL (t := 3) hF rfl rfl fun ho hx hb => ?_; refine aC (v := .int _ _) ho hb hx hF rfl rfl ?_; clear ho hx hb)
      | (refine iL hF rfl rfl fun ho hx hb => ?_; (first | refine aL ho hb hx hF rfl rfl ?_ | refine aC (v := .slice _ _ _) ho hb hx hF rfl rfl ?_ | refine aC (v := .string _) ho hb hx hF rfl rfl ?_ | refine aC (v := .bool _) ho hb hx hF rfl rfl ?_); clear ho hx hb)
      | (refine iS hF rfl rfl fun ho hx hb => ?_; (first | refine aS ho hb hx hF rfl rfl rfl rfl ?_ | refine aT (v := .int _ _) ho hb hx hF rfl rfl rfl rfl ?_ | refine aT (v := .slice _ _ _) ho hb hx hF rfl rfl rfl rfl ?_ | refine aT (v := .bool _) ho hb hx hF rfl rfl rfl rfl ?_); clear ho hx hb hF; intro ww hF; simp only [nf] at hF)
      )
     refine rgw [] [_, _] hF (.cons_cons _ (.cons _ (.cons _ (.cons _ (.cons _ (.cons_cons _ .slnil)))))) fun hF => ?_
     refine tkb 0 0 [] rfl rfl rfl rfl rfl ?_
     try simp only [nrm, Act.put]
     refine tkb 1 1 [] rfl rfl rfl rfl rfl ?_
     try simp only [nrm, Act.put]
     refine tkf 2 rfl ?_
     try simp only [nrm, Act.put]
     refine tkf 3 rfl ?_
     try simp only [nrm, Act.put]
     refine stw 4 3 hF rfl rfl rfl rfl rfl rfl rfl rfl ?_
     clear hF; intro ww hF; simp only [nf] at hF
     try simp only [nrm, Act.put]
     refine stw 5 4 hF rfl rfl rfl rfl rfl rfl rfl rfl ?_
     clear hF; intro ww hF; simp only [nf] at hF
     try simp only [nrm, Act.put]
     refine tkf 6 rfl ?_
     try simp only [nrm, Act.put]
     refine tkf 7 rfl ?_
     try simp only [nrm, Act.put]
     refine dnw ?_
     go_wp2_with (first
      | go_skip
      | (refine aA rfl rfl hF ?_; clear hF; intro gg ww hF; simp only [nf] at hF)
      | (refine aB rfl rfl hF rfl ?_; clear hF; intro gg ww hF; simp only [nf] at hF)
      | (refine iL (t := 3) hF rfl rfl fun ho hx hb => ?_; refine aC (v := .int _ _) ho hb hx hF rfl rfl ?_; clear ho hx hb)
      | (refine iL hF rfl rfl fun ho hx hb => ?_; (first | refine aL ho hb hx hF rfl rfl ?_ | refine aC (v := .slice _ _ _) ho hb hx hF rfl rfl ?_ | refine aC (v := .string _) ho hb hx hF rfl rfl ?_ | refine aC (v := .bool _) ho hb hx hF rfl rfl ?_); clear ho hx hb)
      | (refine iS hF rfl rfl fun ho hx hb => ?_; (first | refine aS ho hb hx hF rfl rfl rfl rfl ?_ | refine aT (v := .int _ _) ho hb hx hF rfl rfl rfl rfl ?_ | refine aT (v := .slice _ _ _) ho hb hx hF rfl rfl rfl rfl ?_ | refine aT (v := .bool _) ho hb hx hF rfl rfl rfl rfl ?_); clear ho hx hb hF; intro ww hF; simp only [nf] at hF)
      )
     refine bodyPost_ret (results4 Tryz.results65 (res_cell 3 hF rfl rfl rfl) (res_cell 4 hF rfl rfl rfl) (.tmp _) (.tmp _)) rfl ⟨_, by rw [hv.out]; rfl, ?_⟩
     rw [hv.out]
     exact ⟨A4, c4, rfl, hF.data.2, NewRow.up g4 hn4, hF.below⟩
    ·
     have hv : Hid (pushP b.cls rs s ((k : Int) + 1) q = (rs, s, 0, e1)) := by show _ = _; rw [HVP.out, hpe.out, if_neg he2]
     obtain rfl := hput he2
     have he3 : (e1 != 0) = true := by rw [bne, he1]; rfl
     clear HVE HVP hpe he2
     go_enter Tryz.func65, Tryz.ntmps65
     go_wp2_with (first
      | go_skip
      | (refine aA rfl rfl hF ?_; clear hF; intro gg ww hF; simp only [nf] at hF)
      | (refine aB rfl rfl hF rfl ?_; clear hF; intro gg ww hF; simp only [nf] at hF)
      | (refine iL (t := 3) hF rfl rfl fun ho hx hb => ?_; refine aC (v := .int _ _) ho hb hx hF rfl rfl ?_; clear ho hx hb)
      | (refine iL hF rfl rfl fun ho hx hb => ?_; (first | refine aL ho hb hx hF rfl rfl ?_ | refine aC (v := .slice _ _ _) ho hb hx hF rfl rfl ?_ | refine aC (v := .string _) ho hb hx hF rfl rfl ?_ | refine aC (v := .bool _) ho hb hx hF rfl rfl ?_); clear ho hx hb)
      | (refine iS hF rfl rfl fun ho hx hb => ?_; (first | refine aS ho hb hx hF rfl rfl rfl rfl ?_ | refine aT (v := .int _ _) ho hb hx hF rfl rfl rfl rfl ?_ | refine aT (v := .slice _ _ _) ho hb hx hF rfl rfl rfl rfl ?_ | refine aT (v := .bool _) ho hb hx hF rfl rfl rfl rfl ?_); clear ho hx hb hF; intro ww hF; simp only [nf] at hF)
      )
     refine rgw [] _ hF (List.Sublist.refl _) fun hF => ?_
     refine tkf 0 rfl ?_
     try simp only [nrm, Act.put]
     refine tkc 1 0 [] (v := .slice _ _ _) rfl rfl rfl rfl rfl ?_
     try simp only [nrm, Act.put]
     refine tkf 2 rfl ?_
     try simp only [nrm, Act.put]
     refine tkf 3 rfl ?_
     try simp only [nrm, Act.put]
     refine tkf 4 rfl ?_
     try simp only [nrm, Act.put]
     refine tkw 5 [] rfl ?_ (v := .agg f.arr) (hv := fun W hW => exec_row rfl rfl (hrow.out W hW.below) rfl)
     try simp only [nrm, Act.put]
     refine tkb 6 2 [] rfl rfl rfl rfl rfl ?_
     try simp only [nrm, Act.put]
     refine rdw 7 rfl fun K hK => ?_
     go_simp
     go_at_call 95
     with_reducible refine (cck.out _ hF.below).mono ?_
     rintro _ ww ⟨rfl, hbn⟩
     replace hF := hF.call hbn
     refine hK.out _ _ (by (first | exact HoldA.past rfl | exact HoldA.of (by assumption) _ | exact HoldA.of (Fr.sub hF (by repeat (first | exact List.Sublist.slnil | apply List.Sublist.cons_cons | apply List.Sublist.cons))) _)) (fun _ => ?_)
     clear hK K; try clear hbn
     try simp only [nrm, Act.put]
     refine tkf 8 rfl ?_
     try simp only [nrm, Act.put]
     refine dnw ?_
     go_wp2_with (first
      | go_skip
      | (refine aA rfl rfl hF ?_; clear hF; intro gg ww hF; simp only [nf] at hF)
      | (refine aB rfl rfl hF rfl ?_; clear hF; intro gg ww hF; simp only [nf] at hF)
      | (refine iL (t := 3) hF rfl rfl fun ho hx hb => ?_; refine aC (v := .int _ _) ho hb hx hF rfl rfl ?_; clear ho hx hb)
      | (refine iL hF rfl rfl fun ho hx hb => ?_; (first | refine aL ho hb hx hF rfl rfl ?_ | refine aC (v := .slice _ _ _) ho hb hx hF rfl rfl ?_ | refine aC (v := .string _) ho hb hx hF rfl rfl ?_ | refine aC (v := .bool _) ho hb hx hF rfl rfl ?_); clear ho hx hb)
      | (refine iS hF rfl rfl fun ho hx hb => ?_; (first | refine aS ho hb hx hF rfl rfl rfl rfl ?_ | refine aT (v := .int _ _) ho hb hx hF rfl rfl rfl rfl ?_ | refine aT (v := .slice _ _ _) ho hb hx hF rfl rfl rfl rfl ?_ | refine aT (v := .bool _) ho hb hx hF rfl rfl rfl rfl ?_); clear ho hx hb hF; intro ww hF; simp only [nf] at hF)
      )
     refine (cn.out _).mono ?_
     rintro _ w2 ⟨rfl, hbn⟩
     replace hF := hF.call hbn
     clear hbn
     go_wp2_with (first
      | go_skip
      | (refine aA rfl rfl hF ?_; clear hF; intro gg ww hF; simp only [nf] at hF)
      | (refine aB rfl rfl hF rfl ?_; clear hF; intro gg ww hF; simp only [nf] at hF)
      | (refine iL (t := 3) hF rfl rfl fun ho hx hb => ?_; refine aC (v := .int _ _) ho hb hx hF rfl rfl ?_; clear ho hx hb)
      | (refine iL hF rfl rfl fun ho hx hb => ?_; (first | refine aL ho hb hx hF rfl rfl ?_ | refine aC (v := .slice _ _ _) ho hb hx hF rfl rfl ?_ | refine aC (v := .string _) ho hb hx hF rfl rfl ?_ | refine aC (v := .bool _) ho hb hx hF rfl rfl ?_); clear ho hx hb)
      | (refine iS hF rfl rfl fun ho hx hb => ?_; (first | refine aS ho hb hx hF rfl rfl rfl rfl ?_ | refine aT (v := .int _ _) ho hb hx hF rfl rfl rfl rfl ?_ | refine aT (v := .slice _ _ _) ho hb hx hF rfl rfl rfl rfl ?_ | refine aT (v := .bool _) ho hb hx hF rfl rfl rfl rfl ?_); clear ho hx hb hF; intro ww hF; simp only [nf] at hF)
      )
     refine (cr.out _ hF.data).mono ?_
     rintro _ w3 ⟨rfl, hbn⟩
     replace hF := hF.call hbn
     clear hbn
     go_wp2_with (first
      | go_skip
      | (refine aA rfl rfl hF ?_; clear hF; intro gg ww hF; simp only [nf] at hF)
      | (refine aB rfl rfl hF rfl ?_; clear hF; intro gg ww hF; simp only [nf] at hF)
      | (refine iL (t := 3) hF rfl rfl fun ho hx hb => ?_; refine aC (v := .int _ _) ho hb hx hF rfl rfl ?_; clear ho hx hb)
      | (refine iL hF rfl rfl fun ho hx hb => ?_; (first | refine aL ho hb hx hF rfl rfl ?_ | refine aC (v := .slice _ _ _) ho hb hx hF rfl rfl ?_ | refine aC (v := .string _) ho hb hx hF rfl rfl ?_ | refine aC (v := .bool _) ho hb hx hF rfl rfl ?_); clear ho hx hb)
      | (refine iS hF rfl rfl fun ho hx hb => ?_; (first | refine aS ho hb hx hF rfl rfl rfl rfl ?_ | refine aT (v := .int _ _) ho hb hx hF rfl rfl rfl rfl ?_ | refine aT (v := .slice _ _ _) ho hb hx hF rfl rfl rfl rfl ?_ | refine aT (v := .bool _) ho hb hx hF rfl rfl rfl rfl ?_); clear ho hx hb hF; intro ww hF; simp only [nf] at hF)
      )
     refine rgw [] _ hF (List.Sublist.refl _) fun hF => ?_
     refine tkf 0 rfl ?_
     try simp only [nrm, Act.put]
     refine tkc 1 0 [] (v := .slice _ _ _) rfl rfl rfl rfl rfl ?_
     try simp only [nrm, Act.put]
     refine tkf 2 rfl ?_
     try simp only [nrm, Act.put]
     refine tkc 3 1 [] (v := .int _ _) rfl rfl rfl rfl rfl ?_
     try simp only [nrm, Act.put]
     refine tkf 4 rfl ?_
     try simp only [nrm, Act.put]
     refine tkf 5 rfl ?_
     try simp only [nrm, Act.put]
     refine tkc 6 1 [] (v := .int _ _) rfl rfl rfl rfl rfl ?_
     try simp only [nrm, Act.put]
     refine tkf 9 rfl ?_
     try simp only [nrm, Act.put]
     refine tkb 10 2 [] rfl rfl rfl rfl rfl ?_
     try simp only [nrm, Act.put]
     refine rdw 7 rfl fun K hK => ?_
     go_simp
     go_at_call 87
     with_reducible refine (cl1.out _).mono ?_
     rintro _ ww ⟨rfl, hbn⟩
     replace hF := hF.call hbn
     refine hK.out _ _ (by (first | exact HoldA.past rfl | exact HoldA.of (by assumption) _ | exact HoldA.of (Fr.sub hF (by repeat (first | exact List.Sublist.slnil | apply List.Sublist.cons_cons | apply List.Sublist.cons))) _)) (fun _ => ?_)
     clear hK K; try clear hbn
     try simp only [nrm, Act.put]
     refine rdw 8 rfl fun K hK => ?_
     go_simp
     go_at_call 52
     with_reducible refine (cu1.out _).mono ?_
     rintro _ ww ⟨rfl, rfl⟩
     skip
     refine hK.out _ _ (by (first | exact HoldA.past rfl | exact HoldA.of (by assumption) _ | exact HoldA.of (Fr.sub hF (by repeat (first | exact List.Sublist.slnil | apply List.Sublist.cons_cons | apply List.Sublist.cons))) _)) (fun _ => ?_)
     clear hK K; try clear hbn
     try simp only [nrm, Act.put]
     refine tkf 11 rfl ?_ (v := .agg #[.int .i64 1, .int .i64 s.n, .int .i64 (untilI s.now 60), .bool false, .int .i64 ((k : Int) + 1), .int .i64 0, .int .i64 0, .int .i64 0, .string q.t1, .string q.t2, .string q.t3, .string q.t4, .string q.t5, .string q.t6, .string q.t7]) (hv := fun w => by kernel_rfl)
     try simp only [nrm, Act.put]
     refine rdw 12 rfl fun K hK => ?_
     go_simp
     go_at_call 86
     with_reducible refine (cp.out _ _ _ hF.data).mono ?_
     rintro _ ww ⟨A4, c4, rfl, hr4, hbn, hn4⟩
     have g4 := hF.below.size
     have hF0 := hF.call hbn
     replace hF := hF.rows hbn hr4 hn4 (fun _ h => h)
     refine hK.out _ _ (by (first | exact HoldA.past rfl | exact HoldA.of (by assumption) _ | exact HoldA.of (Fr.sub hF (by repeat (first | exact List.Sublist.slnil | apply List.Sublist.cons_cons | apply List.Sublist.cons))) _)) (fun _ => ?_)
     clear hK K; try clear hbn
     try simp only [nrm, Act.put]
     refine tkf 13 rfl ?_
     try simp only [nrm, Act.put]
     refine tkf 14 rfl ?_
     try simp only [nrm, Act.put]
     refine tkf 15 rfl ?_
     try simp only [nrm, Act.put]
     refine tkf 16 rfl ?_
     try simp only [nrm, Act.put]
     refine tkf 17 rfl ?_
     try simp only [nrm, Act.put]
     refine dnw ?_
     go_wp2_with (first
      | go_skip
      | (refine aA rfl rfl hF ?_; clear hF; intro gg ww hF; simp only [nf] at hF)
      | (refine aB rfl rfl hF rfl ?_; clear hF; intro gg ww hF; simp only [nf] at hF)
      | (refine iL (t := 3) hF rfl rfl fun ho hx hb => ?_; refine aC (v := .int _ _) ho hb hx hF rfl rfl ?_; clear ho hx hb)
      | (refine iL hF rfl rfl fun ho hx hb => ?_; (first | refine aL ho hb hx hF rfl rfl ?_ | refine aC (v := .slice _ _ _) ho hb hx hF rfl rfl ?_ | refine aC (v := .string _) ho hb hx hF rfl rfl ?_ | refine aC (v := .bool _) ho hb hx hF rfl rfl ?_); clear ho hx hb)
      | (refine iS hF rfl rfl fun ho hx hb => ?_; (first | refine aS ho hb hx hF rfl rfl rfl rfl ?_ | refine aT (v := .int _ _) ho hb hx hF rfl rfl rfl rfl ?_ | refine aT (v := .slice _ _ _) ho hb hx hF rfl rfl rfl rfl ?_ | refine aT (v := .bool _) ho hb hx hF rfl rfl rfl rfl ?_); clear ho hx hb hF; intro ww hF; simp only [nf] at hF)
      )
     refine rgw [] [_, _] hF (.cons_cons _ (.cons_cons _ (.cons _ (.cons _ (.cons _ (.cons _ .slnil)))))) fun hF => ?_
     refine tkb 0 0 [] rfl rfl rfl rfl rfl ?_
     try simp only [nrm, Act.put]
     refine tkb 1 1 [] rfl rfl rfl rfl rfl ?_
     try simp only [nrm, Act.put]
     refine tkf 2 rfl ?_
     try simp only [nrm, Act.put]
     refine stw 3 3 hF rfl rfl rfl rfl rfl rfl rfl rfl ?_
     clear hF; intro ww hF; simp only [nf] at hF
     try simp only [nrm, Act.put]
     refine stw 4 4 hF rfl rfl rfl rfl rfl rfl rfl rfl ?_
     clear hF; intro ww hF; simp only [nf] at hF
     try simp only [nrm, Act.put]
     refine tkf 5 rfl ?_
     try simp only [nrm, Act.put]
     refine tkf 6 rfl ?_
     try simp only [nrm, Act.put]
     refine dnw ?_
     go_wp2_with (first
      | go_skip
      | (refine aA rfl rfl hF ?_; clear hF; intro gg ww hF; simp only [nf] at hF)
      | (refine aB rfl rfl hF rfl ?_; clear hF; intro gg ww hF; simp only [nf] at hF)
      | (refine iL (t := 3) hF rfl rfl fun ho hx hb => ?_; refine aC (v := .int _ _) ho hb hx hF rfl rfl ?_; clear ho hx hb)
      | (refine iL hF rfl rfl fun ho hx hb => ?_; (first | refine aL ho hb hx hF rfl rfl ?_ | refine aC (v := .slice _ _ _) ho hb hx hF rfl rfl ?_ | refine aC (v := .string _) ho hb hx hF rfl rfl ?_ | refine aC (v := .bool _) ho hb hx hF rfl rfl ?_); clear ho hx hb)
      | (refine iS hF rfl rfl fun ho hx hb => ?_; (first | refine aS ho hb hx hF rfl rfl rfl rfl ?_ | refine aT (v := .int _ _) ho hb hx hF rfl rfl rfl rfl ?_ | refine aT (v := .slice _ _ _) ho hb hx hF rfl rfl rfl rfl ?_ | refine aT (v := .bool _) ho hb hx hF rfl rfl rfl rfl ?_); clear ho hx hb hF; intro ww hF; simp only [nf] at hF)
      )
     refine bodyPost_ret (results4 Tryz.results65 (res_cell 3 hF rfl rfl rfl) (res_cell 4 hF rfl rfl rfl) (.tmp _) (.tmp _)) rfl ⟨_, by rw [hv.out]; rfl, ?_⟩
     rw [hv.out]
     exact StR.same (b := b) (cl := cl) HS.out.rs hF.below
  ·
   have hv : Hid (pushP b.cls rs s ((k : Int) + 1) q = (rs, s, 0, ce)) := by
    have e0 : pushE b.cls rs s ((k : Int) + 1) q = ce := by rw [HVE.out, if_pos hc2]
    show _ = _
    rw [HVP.out, e0, if_neg hc2]
   have hc3 : (ce != 0) = true := by rw [bne, hc1]; rfl
   generalize drawB s = db at cn
   clear HVE HVP hc2
   go_enter Tryz.func65, Tryz.ntmps65
   go_wp2_with (first
    | go_skip
    | (refine aA rfl rfl hF ?_; clear hF; intro gg ww hF; simp only [nf] at hF)
    | (refine aB rfl rfl hF rfl ?_; clear hF; intro gg ww hF; simp only [nf] at hF)
    | (refine iL (t := 3) hF rfl rfl fun ho hx hb => ?_; refine aC (v := .int _ _) ho hb hx hF rfl rfl ?_; clear ho hx hb)
    | (refine iL hF rfl rfl fun ho hx hb => ?_; (first | refine aL ho hb hx hF rfl rfl ?_ | refine aC (v := .slice _ _ _) ho hb hx hF rfl rfl ?_ | refine aC (v := .string _) ho hb hx hF rfl rfl ?_ | refine aC (v := .bool _) ho hb hx hF rfl rfl ?_); clear ho hx hb)
    | (refine iS hF rfl rfl fun ho hx hb => ?_; (first | refine aS ho hb hx hF rfl rfl rfl rfl ?_ | refine aT (v := .int _ _) ho hb hx hF rfl rfl rfl rfl ?_ | refine aT (v := .slice _ _ _) ho hb hx hF rfl rfl rfl rfl ?_ | refine aT (v := .bool _) ho hb hx hF rfl rfl rfl rfl ?_); clear ho hx hb hF; intro ww hF; simp only [nf] at hF)
    )
   refine rgw [] _ hF (List.Sublist.refl _) fun hF => ?_
   refine tkf 0 rfl ?_
   try simp only [nrm, Act.put]
   refine tkc 1 0 [] (v := .slice _ _ _) rfl rfl rfl rfl rfl ?_
   try simp only [nrm, Act.put]
   refine tkf 2 rfl ?_
   try simp only [nrm, Act.put]
   refine tkf 3 rfl ?_
   try simp only [nrm, Act.put]
   refine tkf 4 rfl ?_
   try simp only [nrm, Act.put]
   refine tkw 5 [] rfl ?_ (v := .agg f.arr) (hv := fun W hW => exec_row rfl rfl (hrow.out W hW.below) rfl)
   try simp only [nrm, Act.put]
   refine tkb 6 2 [] rfl rfl rfl rfl rfl ?_
   try simp only [nrm, Act.put]
   refine rdw 7 rfl fun K hK => ?_
   go_simp
   go_at_call 95
   with_reducible refine (cck.out _ hF.below).mono ?_
   rintro _ ww ⟨rfl, hbn⟩
   replace hF := hF.call hbn
   refine hK.out _ _ (by (first | exact HoldA.past rfl | exact HoldA.of (by assumption) _ | exact HoldA.of (Fr.sub hF (by repeat (first | exact List.Sublist.slnil | apply List.Sublist.cons_cons | apply List.Sublist.cons))) _)) (fun _ => ?_)
   clear hK K; try clear hbn
   try simp only [nrm, Act.put]
   refine tkf 8 rfl ?_
   try simp only [nrm, Act.put]
   refine dnw ?_
   go_wp2_with (first
    | go_skip
    | (refine aA rfl rfl hF ?_; clear hF; intro gg ww hF; simp only [nf] at hF)
    | (refine aB rfl rfl hF rfl ?_; clear hF; intro gg ww hF; simp only [nf] at hF)
    | (refine iL (t := 3) hF rfl rfl fun ho hx hb => ?_; refine aC (v := .int _ _) ho hb hx hF rfl rfl ?_; clear ho hx hb)
    | (refine iL hF rfl rfl fun ho hx hb => ?_; (first | refine aL ho hb hx hF rfl rfl ?_ | refine aC (v := .slice _ _ _) ho hb hx hF rfl rfl ?_ | refine aC (v := .string _) ho hb hx hF rfl rfl ?_ | refine aC (v := .bool _) ho hb hx hF rfl rfl ?_); clear ho hx hb)
    | (refine iS hF rfl rfl fun ho hx hb => ?_; (first | refine aS ho hb hx hF rfl rfl rfl rfl ?_ | refine aT (v := .int _ _) ho hb hx hF rfl rfl rfl rfl ?_ | refine aT (v := .slice _ _ _) ho hb hx hF rfl rfl rfl rfl ?_ | refine aT (v := .bool _) ho hb hx hF rfl rfl rfl rfl ?_); clear ho hx hb hF; intro ww hF; simp only [nf] at hF)
    )
   refine (cn.out _).mono ?_
   rintro _ w2 ⟨rfl, hbn⟩
   replace hF := hF.call hbn
   clear hbn
   go_wp2_with (first
    | go_skip
    | (refine aA rfl rfl hF ?_; clear hF; intro gg ww hF; simp only [nf] at hF)
    | (refine aB rfl rfl hF rfl ?_; clear hF; intro gg ww hF; simp only [nf] at hF)
    | (refine iL (t := 3) hF rfl rfl fun ho hx hb => ?_; refine aC (v := .int _ _) ho hb hx hF rfl rfl ?_; clear ho hx hb)
    | (refine iL hF rfl rfl fun ho hx hb => ?_; (first | refine aL ho hb hx hF rfl rfl ?_ | refine aC (v := .slice _ _ _) ho hb hx hF rfl rfl ?_ | refine aC (v := .string _) ho hb hx hF rfl rfl ?_ | refine aC (v := .bool _) ho hb hx hF rfl rfl ?_); clear ho hx hb)
    | (refine iS hF rfl rfl fun ho hx hb => ?_; (first | refine aS ho hb hx hF rfl rfl rfl rfl ?_ | refine aT (v := .int _ _) ho hb hx hF rfl rfl rfl rfl ?_ | refine aT (v := .slice _ _ _) ho hb hx hF rfl rfl rfl rfl ?_ | refine aT (v := .bool _) ho hb hx hF rfl rfl rfl rfl ?_); clear ho hx hb hF; intro ww hF; simp only [nf] at hF)
    )
   refine rgw [] [_, _] hF (.cons_cons _ (.cons_cons _ (.cons _ (.cons _ (.cons _ (.cons _ .slnil)))))) fun hF => ?_
   refine tkb 0 0 [] rfl rfl rfl rfl rfl ?_
   try simp only [nrm, Act.put]
   refine tkb 1 1 [] rfl rfl rfl rfl rfl ?_
   try simp only [nrm, Act.put]
   refine tkf 2 rfl ?_
   try simp only [nrm, Act.put]
   refine stw 3 3 hF rfl rfl rfl rfl rfl rfl rfl rfl ?_
   clear hF; intro ww hF; simp only [nf] at hF
   try simp only [nrm, Act.put]
   refine stw 4 4 hF rfl rfl rfl rfl rfl rfl rfl rfl ?_
   clear hF; intro ww hF; simp only [nf] at hF
   try simp only [nrm, Act.put]
   refine tkf 5 rfl ?_
   try simp only [nrm, Act.put]
   refine tkf 6 rfl ?_
   try simp only [nrm, Act.put]
   refine dnw ?_
   go_wp2_with (first
    | go_skip
    | (refine aA rfl rfl hF ?_; clear hF; intro gg ww hF; simp only [nf] at hF)
    | (refine aB rfl rfl hF rfl ?_; clear hF; intro gg ww hF; simp only [nf] at hF)
    | (refine iL (t := 3) hF rfl rfl fun ho hx hb => ?_; refine aC (v := .int _ _) ho hb hx hF rfl rfl ?_; clear ho hx hb)
    | (refine iL hF rfl rfl fun ho hx hb => ?_; (first | refine aL ho hb hx hF rfl rfl ?_ | refine aC (v := .slice _ _ _) ho hb hx hF rfl rfl ?_ | refine aC (v := .string _) ho hb hx hF rfl rfl ?_ | refine aC (v := .bool _) ho hb hx hF rfl rfl ?_); clear ho hx hb)
    | (refine iS hF rfl rfl fun ho hx hb => ?_; (first | refine aS ho hb hx hF rfl rfl rfl rfl ?_ | refine aT (v := .int _ _) ho hb hx hF rfl rfl rfl rfl ?_ | refine aT (v := .slice _ _ _) ho hb hx hF rfl rfl rfl rfl ?_ | refine aT (v := .bool _) ho hb hx hF rfl rfl rfl rfl ?_); clear ho hx hb hF; intro ww hF; simp only [nf] at hF)
    )
   refine bodyPost_ret (results4 Tryz.results65 (res_cell 3 hF rfl rfl rfl) (res_cell 4 hF rfl rfl rfl) (.tmp _) (.tmp _)) rfl ⟨_, by rw [hv.out]; rfl, ?_⟩
   rw [hv.out]
   exact StR.same (b := b) (cl := cl) HS.out.rs hF.below
end Go.Proofs.YtnhjgocdepbajaaGreat
