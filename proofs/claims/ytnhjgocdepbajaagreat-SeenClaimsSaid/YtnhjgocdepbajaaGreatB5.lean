/- countersignref20.Users of two equal rows: they are the same. Condition: rows of a size that a machine bears. -/
import Derived.Test.YtnhjgocdepbajaaGreatYe
set_option linter.unusedVariables false
set_option linter.unusedSimpArgs false
set_option maxRecDepth 20000
set_option maxHeartbeats 8000000
namespace Go.Proofs.YtnhjgocdepbajaaGreat
open Go.RowKit S19 C17 R
theorem exec_row_at {op : Oper} {a : Act} {w : World} {t' : TypeId} {x : Operand} {ad : Addr} (vs : List Value) [hs : StructIs t'] (ho : op.op = .load t' x) (hx : a.eval x = .pointer (some ad)) (hc : ∀ j u, vs[j]? = some u → w.cell? (ad.add j) = some u) (hn : vs.length = hs.n) : (execOp a.eval op).run Tryz.prog w = .ok (.value (.agg vs.toArray)) w := by
 obtain ⟨d, hu, hd⟩ := hs.d
 have := run_loadVar_at (P := Tryz.prog) w ad t' vs d hc hu (by cases d <;> first | rfl | cases hd) (by rw [hs.s, hn])
 unfold execOp
 simp only [ho, hx, Instr.loadAt, Instr.sureAddr, Sem.run_bind, Sem.run_pure, Result.andThen_ok, this]
instance : StructIs 65 := ⟨2, ⟨_, Tryz.underlying65, rfl⟩, by kernel_rfl⟩
theorem neq_us (n : ByteArray) (p : Int) (W : World) : (binOp .neq 65 (.agg #[.string n, .int .i64 p]) (.agg #[.string n, .int .i64 p])).run Tryz.prog W = .ok (.bool false) W := by
 have hs1 : Tryz.prog.stoodInHeld 65 = false := by kernel_rfl
 have hf1 : Tryz.prog.underlying 65 = some (.struct (Tryz.prog.fieldsOf 65)) := by kernel_rfl
 rw [run_neq_struct, run_equalIn_struct W 9999 _ _ _ hf1 hs1]
 rw [show (Tryz.prog.fieldsOf 65).toList = _ from (by unfold Program.fieldsOf; rw [Tryz.underlying65])]
 simp [go_sem, Tryz.underlying3, Tryz.underlying9]
theorem kp_reads {w : World} {B size n : Nat} {A : Option Addr} {xs : List Value} (h : Reads w B size A n xs) (hB : B ≤ w.heap.size) : Kp w [] (fun W => Reads W B size A n xs) := by
 refine fun w' hs hk => ⟨h.1, fun h0 => ?_⟩
 obtain ⟨ad, e, hb, hc⟩ := h.2 h0
 exact ⟨ad, e, hb, fun j u hu => (World.cell?_of_block (by rw [block_of_add]; exact hk _ (by omega) (by simp))).trans (hc j u hu)⟩
theorem users_walk (us : List UsP) (A B : Option Addr) (c d : Nat) (w : World) (hr : UsAt w A c us) (hs : UsAt w B d us) (hm : us.length ≤ 1000000) :
  Calls Tryz.prog 46 #[.slice A us.length c, .slice B us.length d] w fun e w' => e = .returned (.bool true) ∧ Below w.heap.size w w' := by
 have HR := Lib.hid hr.2
 have HS := Lib.hid hs.2
 have hF0 : Fr w w [] (fun W => Reads W w.heap.size 2 A us.length (uCells us) ∧ Reads W w.heap.size 2 B us.length (uCells us)) := Fr.start w ((kp_reads hr.2 (Nat.le_refl _)).both (kp_reads hs.2 (Nat.le_refl _)))
 clear hr hs
 go_enter Tryz.func46, Tryz.ntmps46
 go_wp2_with fail
 go_loopw [5] (fun nv wr => ∃ k : Nat, k ≤ us.length ∧ nv = .int .i64 k ∧ Fr w wr [] (fun W => Reads W w.heap.size 2 A us.length (uCells us) ∧ Reads W w.heap.size 2 B us.length (uCells us))) (fun nv _ => us.length - (intOf nv).toNat)
 case atStart => exact ⟨0, by omega, rfl, hF0⟩
 case round =>
  clear hF0
  obtain ⟨k, hk, rfl, hF⟩ := hrel
  by_cases hlt : k < us.length
  ·
   obtain ⟨u, huk⟩ : ∃ u, us[k]? = some u := ⟨_, List.getElem?_eq_getElem hlt⟩
   obtain ⟨ad, rfl⟩ : ∃ ad, A = some ad := by obtain ⟨ad, h, _⟩ := HR.out.2 (by omega); exact ⟨ad, h⟩
   obtain ⟨bd, rfl⟩ : ∃ ad, B = some ad := by obtain ⟨ad, h, _⟩ := HS.out.2 (by omega); exact ⟨ad, h⟩
   have hlt2 : (k : Int) < (us.length : Int) := by omega
   have HU := Lib.hid huk
   clear huk
   have hqg : Tryz.prog.eqGuardType Tryz.prog.depth 65 = false := by kernel_rfl
   have hnq := neq_us ⟨u.nm.toArray⟩ u.pass
   go_wp2_with fail
   refine rgw [] [] hF .slnil fun hF => ?_
   refine tkf 0 rfl ?_
   try simp only [nrm, Act.put]
   refine tkf 1 rfl ?_
   try simp only [nrm, Act.put]
   refine tkf 2 rfl ?_
   try simp only [nrm, Act.put]
   refine tkw 3 [] rfl ?_ (v := .agg #[.string ⟨u.nm.toArray⟩, .int .i64 u.pass]) (hv := fun W hW => exec_row_at (t' := 65) [.string ⟨u.nm.toArray⟩, .int .i64 u.pass] rfl rfl (us_at hW.data.1 HU.out) rfl)
   try simp only [nrm, Act.put]
   refine tkf 4 rfl ?_
   try simp only [nrm, Act.put]
   refine tkf 5 rfl ?_
   try simp only [nrm, Act.put]
   refine tkf 6 rfl ?_
   try simp only [nrm, Act.put]
   refine tkw 7 [] rfl ?_ (v := .agg #[.string ⟨u.nm.toArray⟩, .int .i64 u.pass]) (hv := fun W hW => exec_row_at (t' := 65) [.string ⟨u.nm.toArray⟩, .int .i64 u.pass] rfl rfl (us_at hW.data.2 HU.out) rfl)
   try simp only [nrm, Act.put]
   refine tkf 8 rfl ?_
   try simp only [nrm, Act.put]
   refine dnw ?_
   go_wp2_with fail
   exact ⟨⟨k + 1, by omega, by go_num, hF⟩, by simp [intOf]; omega⟩
  ·
   have hkl : k = us.length := by omega
   have hk1 : ¬ (k : Int) < (us.length : Int) := by omega
   have hk2 : decide ((k : Int) < (us.length : Int)) = false := by simpa using hlt
   have hk3 : decide (k < us.length) = false := by simpa using hlt
   clear hlt hkl
   go_upto_region 8 with (fail)
   go_wp2_with fail
   go_ret
   exact ⟨rfl, hF.below⟩
end Go.Proofs.YtnhjgocdepbajaaGreat
/- countersignref20.Clients of two equal rows: they are the same. Condition: rows of a size that a machine bears. -/
set_option linter.unusedVariables false
set_option linter.unusedSimpArgs false
set_option maxRecDepth 20000
namespace Go.Proofs.YtnhjgocdepbajaaGreat
open Go.RowKit S19 C17 R
theorem cl_four {w : World} {B n : Nat} {ad : Addr} {fs : List Cl} (h : Reads w B 4 (some ad) n (cCells fs)) {k : Nat} {f : Cl} (hk : fs[k]? = some f) :
  w.cell? (ad.add (k * 4)) = some (.string ⟨f.id.toArray⟩) ∧ w.cell? ⟨(ad.add (k * 4)).block, (ad.add (k * 4)).off + 1, none⟩ = some (.int .i64 f.sec) ∧
  w.cell? ⟨(ad.add (k * 4)).block, (ad.add (k * 4)).off + 2, none⟩ = some (.slice f.ra f.red.length f.rc) ∧ w.cell? ⟨(ad.add (k * 4)).block, (ad.add (k * 4)).off + 3, none⟩ = some (.string ⟨f.sc.toArray⟩) :=
 ⟨cl_at h hk 0 _ rfl, cl_at h hk 1 _ rfl, cl_at h hk 2 _ rfl, cl_at h hk 3 _ rfl⟩
theorem clients_walk (cl cm : List Cl) (A B : Option Addr) (c d : Nat) (w : World) (hA : ClsAt w A c cl) (hB : ClsAt w B d cm) (he : cl.map clP = cm.map clP) (hm : cl.length ≤ 1000000) (htx : ∀ x ∈ cl, x.red.length ≤ 1000000) :
  Calls Tryz.prog 45 #[.slice A cl.length c, .slice B cm.length d] w fun e w' => e = .returned (.bool true) ∧ Below w.heap.size w w' := by
 have hl : cm.length = cl.length := by rw [← List.length_map (f := clP), ← he, List.length_map]
 rw [hl]
 have HE := Lib.hid (And.intro he hl)
 have HA := Lib.hid (fun W (hb : Below w.heap.size w W) => hA.below hb)
 have HB := Lib.hid (fun W (hb : Below w.heap.size w W) => hB.below hb)
 have hF0 := Fr.nil w
 clear hA hB he hl
 go_enter Tryz.func45, Tryz.ntmps45
 go_wp2_with fail
 go_loopw [5] (fun nv wr => ∃ k : Nat, k ≤ cl.length ∧ nv = .int .i64 k ∧ Fr w wr [] (fun _ => True)) (fun nv _ => cl.length - (intOf nv).toNat)
 case atStart => exact ⟨0, by omega, rfl, hF0⟩
 case round =>
  clear hF0
  obtain ⟨k, hk, rfl, hF⟩ := hrel
  by_cases hlt : k < cl.length
  ·
   obtain ⟨x, hxk⟩ : ∃ u, cl[k]? = some u := ⟨_, List.getElem?_eq_getElem hlt⟩
   obtain ⟨y, hyk⟩ : ∃ u, cm[k]? = some u := ⟨_, List.getElem?_eq_getElem (by rw [HE.out.2]; exact hlt)⟩
   obtain ⟨ad, rfl⟩ : ∃ ad, A = some ad := by obtain ⟨ad, h, _⟩ := (HA.out _ hF.below).2.1.2 (by omega); exact ⟨ad, h⟩
   obtain ⟨bd, rfl⟩ : ∃ ad, B = some ad := by obtain ⟨ad, h, _⟩ := (HB.out _ hF.below).2.1.2 (by have := HE.out.2; omega); exact ⟨ad, h⟩
   have hp : clP x = clP y := by
    have h := congrArg (fun l => l[k]?) HE.out.1
    simp only [List.getElem?_map, hxk, hyk, Option.map_some, Option.some.injEq] at h
    exact h
   have e1 : y.id = x.id := (congrArg ClP.id hp).symm
   have e2 : y.sec = x.sec := (congrArg ClP.sec hp).symm
   have e3 : y.red = x.red := (congrArg ClP.red hp).symm
   have e4 : y.sc = x.sc := (congrArg ClP.sc hp).symm
   have HX := Lib.hid (fun W hb => cl_four (HA.out W hb).2.1 hxk)
   have HY := Lib.hid (fun W hb => cl_four (HB.out W hb).2.1 hyk)
   rw [e1, e2, e3, e4] at HY
   have SX := Lib.hid (fun W hb => (HA.out W hb).2.2 x (List.mem_of_getElem? hxk))
   have SY := Lib.hid (fun W hb => (HB.out W hb).2.2 y (List.mem_of_getElem? hyk))
   rw [e3] at SY
   have hxr := htx x (List.mem_of_getElem? hxk)
   have hlt2 : (k : Int) < (cl.length : Int) := by omega
   have hxc := (SX.out _ hF.below).1
   have hyc := (SY.out _ hF.below).1
   have q1 := tl_ne ⟨x.id.toArray⟩ ⟨x.id.toArray⟩
   have q2 := tl_ne ⟨x.sc.toArray⟩ ⟨x.sc.toArray⟩
   rw [decide_eq_true rfl] at q1 q2
   clear hxk hyk hp e1 e2 e3 e4
   go_wp2_with fail
   refine rgw [] [] hF .slnil fun hF => ?_
   refine tkf 0 rfl ?_
   try simp only [nrm, Act.put]
   refine tkf 1 rfl ?_
   try simp only [nrm, Act.put]
   refine tkf 2 rfl ?_
   try simp only [nrm, Act.put]
   refine tkf 3 rfl ?_
   try simp only [nrm, Act.put]
   refine tkw 4 [] rfl ?_ (v := .string ⟨x.id.toArray⟩) (hv := fun W hW => exec_at (t' := 9) rfl rfl (HX.out W hW.below).1)
   try simp only [nrm, Act.put]
   refine tkf 5 rfl ?_
   try simp only [nrm, Act.put]
   refine tkf 6 rfl ?_
   try simp only [nrm, Act.put]
   refine tkf 7 rfl ?_
   try simp only [nrm, Act.put]
   refine tkf 8 rfl ?_
   try simp only [nrm, Act.put]
   refine tkw 9 [] rfl ?_ (v := .string ⟨x.id.toArray⟩) (hv := fun W hW => exec_at (t' := 9) rfl rfl (HY.out W hW.below).1)
   try simp only [nrm, Act.put]
   refine tkf 10 rfl ?_
   try simp only [nrm, Act.put]
   refine tkf 11 rfl ?_
   try simp only [nrm, Act.put]
   refine tkf 12 rfl ?_
   try simp only [nrm, Act.put]
   refine tkf 13 rfl ?_
   try simp only [nrm, Act.put]
   refine tkf 14 rfl ?_
   try simp only [nrm, Act.put]
   refine tkf 15 rfl ?_
   try simp only [nrm, Act.put]
   refine tkw 16 [] rfl ?_ (v := .int .i64 x.sec) (hv := fun W hW => exec_at (t' := 3) rfl rfl (HX.out W hW.below).2.1)
   try simp only [nrm, Act.put]
   refine tkf 17 rfl ?_
   try simp only [nrm, Act.put]
   refine tkf 18 rfl ?_
   try simp only [nrm, Act.put]
   refine tkf 19 rfl ?_
   try simp only [nrm, Act.put]
   refine tkf 20 rfl ?_
   try simp only [nrm, Act.put]
   refine tkw 21 [] rfl ?_ (v := .int .i64 x.sec) (hv := fun W hW => exec_at (t' := 3) rfl rfl (HY.out W hW.below).2.1)
   try simp only [nrm, Act.put]
   refine tkf 22 rfl ?_
   try simp only [nrm, Act.put]
   refine tkf 23 rfl ?_
   try simp only [nrm, Act.put]
   refine tkf 24 rfl ?_
   try simp only [nrm, Act.put]
   refine tkf 25 rfl ?_
   try simp only [nrm, Act.put]
   refine tkf 26 rfl ?_
   try simp only [nrm, Act.put]
   refine tkf 27 rfl ?_
   try simp only [nrm, Act.put]
   refine tkf 28 rfl ?_
   try simp only [nrm, Act.put]
   refine tkw 29 [] rfl ?_ (v := .string ⟨x.sc.toArray⟩) (hv := fun W hW => exec_at (t' := 9) rfl rfl (HX.out W hW.below).2.2.2)
   try simp only [nrm, Act.put]
   refine tkf 30 rfl ?_
   try simp only [nrm, Act.put]
   refine tkf 31 rfl ?_
   try simp only [nrm, Act.put]
   refine tkf 32 rfl ?_
   try simp only [nrm, Act.put]
   refine tkf 33 rfl ?_
   try simp only [nrm, Act.put]
   refine tkw 34 [] rfl ?_ (v := .string ⟨x.sc.toArray⟩) (hv := fun W hW => exec_at (t' := 9) rfl rfl (HY.out W hW.below).2.2.2)
   try simp only [nrm, Act.put]
   refine tkf 35 rfl ?_
   try simp only [nrm, Act.put]
   refine tkf 36 rfl ?_
   try simp only [nrm, Act.put]
   refine tkf 37 rfl ?_
   try simp only [nrm, Act.put]
   refine tkf 38 rfl ?_
   try simp only [nrm, Act.put]
   refine tkf 39 rfl ?_
   try simp only [nrm, Act.put]
   refine tkf 40 rfl ?_
   try simp only [nrm, Act.put]
   refine tkf 41 rfl ?_
   try simp only [nrm, Act.put]
   refine tkw 42 [] rfl ?_ (v := .slice x.ra x.red.length x.rc) (hv := fun W hW => exec_at (t' := 45) rfl rfl (HX.out W hW.below).2.2.1)
   try simp only [nrm, Act.put]
   refine tkf 43 rfl ?_
   try simp only [nrm, Act.put]
   refine tkf 44 rfl ?_
   try simp only [nrm, Act.put]
   refine tkf 45 rfl ?_
   try simp only [nrm, Act.put]
   refine tkf 46 rfl ?_
   try simp only [nrm, Act.put]
   refine tkf 47 rfl ?_
   try simp only [nrm, Act.put]
   refine tkw 48 [] rfl ?_ (v := .slice y.ra x.red.length y.rc) (hv := fun W hW => exec_at (t' := 45) rfl rfl (HY.out W hW.below).2.2.1)
   try simp only [nrm, Act.put]
   refine tkf 49 rfl ?_
   try simp only [nrm, Act.put]
   refine tkf 50 rfl ?_
   try simp only [nrm, Act.put]
   refine tkf 51 rfl ?_
   try simp only [nrm, Act.put]
   refine dnw ?_
   clear q1 q2
   go_wp2_with fail
   go_loopw [6] (fun nv wr => ∃ j : Nat, j ≤ x.red.length ∧ nv = .int .i64 j ∧ Fr w wr [] (fun _ => True)) (fun nv _ => x.red.length - (intOf nv).toNat)
   case atStart => exact ⟨0, by omega, rfl, hF⟩
   case round =>
    clear hF
    obtain ⟨j, hj, rfl, hF⟩ := hrel
    have hx2 := (HX.out _ hF.below).2.2.1
    by_cases hjt : j < x.red.length
    ·
     obtain ⟨p, hpj⟩ : ∃ p, x.red[j]? = some p := ⟨_, List.getElem?_eq_getElem hjt⟩
     obtain ⟨rd, hrd, _⟩ := (SX.out _ hF.below).get hpj
     obtain ⟨sd, hsd, _⟩ := (SY.out _ hF.below).get hpj
     have HXp := Lib.hid (fun W hb => by obtain ⟨ad', h1, h2⟩ := (SX.out W hb).get hpj; rw [hrd] at h1; injection h1 with h1; rw [← h1] at h2; exact h2 : ∀ W, Below w.heap.size w W → W.cell? (rd.add j) = some (.string ⟨p.toArray⟩))
     have HYp := Lib.hid (fun W hb => by obtain ⟨ad', h1, h2⟩ := (SY.out W hb).get hpj; rw [hsd] at h1; injection h1 with h1; rw [← h1] at h2; exact h2 : ∀ W, Below w.heap.size w W → W.cell? (sd.add j) = some (.string ⟨p.toArray⟩))
     rw [hrd] at HX hx2
     rw [hsd] at HY
     have hjt2 : (j : Int) < (x.red.length : Int) := by omega
     have q3 := tl_ne ⟨p.toArray⟩ ⟨p.toArray⟩
     rw [decide_eq_true rfl] at q3
     clear hpj hrd hsd
     go_wp2_with fail
     clear hx2
     refine rgw [] [] hF .slnil fun hF => ?_
     refine tkf 0 rfl ?_
     try simp only [nrm, Act.put]
     refine tkf 1 rfl ?_
     try simp only [nrm, Act.put]
     refine tkf 2 rfl ?_
     try simp only [nrm, Act.put]
     refine tkf 3 rfl ?_
     try simp only [nrm, Act.put]
     refine tkw 4 [] rfl ?_ (v := .slice (some rd) x.red.length x.rc) (hv := fun W hW => exec_at (t' := 45) rfl rfl (HX.out W hW.below).2.2.1)
     try simp only [nrm, Act.put]
     refine tkf 5 rfl ?_
     try simp only [nrm, Act.put]
     refine tkf 6 rfl ?_
     try simp only [nrm, Act.put]
     refine tkw 7 [] rfl ?_ (v := .string ⟨p.toArray⟩) (hv := fun W hW => exec_at (t' := 9) rfl rfl (HXp.out W hW.below))
     try simp only [nrm, Act.put]
     refine tkf 8 rfl ?_
     try simp only [nrm, Act.put]
     refine tkf 9 rfl ?_
     try simp only [nrm, Act.put]
     refine tkf 10 rfl ?_
     try simp only [nrm, Act.put]
     refine tkf 11 rfl ?_
     try simp only [nrm, Act.put]
     refine tkw 12 [] rfl ?_ (v := .slice (some sd) x.red.length y.rc) (hv := fun W hW => exec_at (t' := 45) rfl rfl (HY.out W hW.below).2.2.1)
     try simp only [nrm, Act.put]
     refine tkf 13 rfl ?_
     try simp only [nrm, Act.put]
     refine tkf 14 rfl ?_
     try simp only [nrm, Act.put]
     refine tkw 15 [] rfl ?_ (v := .string ⟨p.toArray⟩) (hv := fun W hW => exec_at (t' := 9) rfl rfl (HYp.out W hW.below))
     try simp only [nrm, Act.put]
     refine tkf 16 rfl ?_
     try simp only [nrm, Act.put]
     refine dnw ?_
     go_wp2_with fail
     exact ⟨⟨j + 1, by omega, by go_num, hF⟩, by simp [intOf]; omega⟩
    ·
     have hj1 : ¬ (j : Int) < (x.red.length : Int) := by omega
     have hj2 : decide ((j : Int) < (x.red.length : Int)) = false := by simpa using hjt
     have hj3 : decide (j < x.red.length) = false := by simpa using hjt
     clear hjt
     go_wp2_with fail
     exact ⟨⟨k + 1, by omega, by go_num, hF⟩, by simp [intOf]; omega⟩
  ·
   have hkl : k = cl.length := by omega
   have hk1 : ¬ (k : Int) < (cl.length : Int) := by omega
   have hk2 : decide ((k : Int) < (cl.length : Int)) = false := by simpa using hlt
   have hk3 : decide (k < cl.length) = false := by simpa using hlt
   clear hlt hkl
   go_upto_region 13 with (fail)
   go_wp2_with fail
   go_ret
   exact ⟨rfl, hF.below⟩
end Go.Proofs.YtnhjgocdepbajaaGreat
/- countersignref20.Same of two equal states: it is true. Condition: rows of sizes that a machine bears. -/
set_option linter.unusedVariables false
set_option linter.unusedSimpArgs false
set_option maxRecDepth 20000
namespace Go.Proofs.YtnhjgocdepbajaaGreat
open Go.RowKit S19 C17 R
theorem recs_walk (rs : List Rc) (A B : Option Addr) (c d : Nat) (w : World) (hr : RecsAt w A c rs) (hs : RecsAt w B d rs) :
  Calls Tryz.prog 47 #[.slice A rs.length c, .slice B rs.length d] w fun e w' => e = .returned (.bool true) ∧ ∃ n, w' = w.drewN n := by
 have h := S19.same_walk rs rs A B c d w hr hs
 rw [decide_eq_true rfl] at h
 exact h
theorem psame_walk (b : Bs) (rs : List Rc) (cl : List Cl) (CA : Option Addr) (cc : Nat) (UA : Option Addr) (uc : Nat) (RA : Option Addr) (rc : Nat) (cm : List Cl) (CB : Option Addr) (cd : Nat) (UB : Option Addr) (ud : Nat) (RB : Option Addr) (rd : Nat) (w : World)
  (h1 : StH b rs w cl CA cc UA uc RA rc) (h2 : StH b rs w cm CB cd UB ud RB rd) (hcl : cl.length ≤ 1000000) (hul : b.us.length ≤ 1000000) (htx : ∀ c ∈ cl, c.red.length ≤ 1000000) :
  Calls Tryz.prog 15 #[.agg (stA b.nm b.key CA cl.length cc UA b.us.length uc RA rs.length rc), .agg (stA b.nm b.key CB cm.length cd UB b.us.length ud RB rs.length rd)] w fun e w' => e = .returned (.bool true) ∧ Below w.heap.size w w' := by
 have hF := Fr.nil w
 have HS := Lib.hid (fun W (hb : Below w.heap.size w W) => And.intro (h1.below hb) (h2.below hb))
 have cc1 := Lib.hid (fun W (h : StH b rs W cl CA cc UA uc RA rc ∧ StH b rs W cm CB cd UB ud RB rd) => clients_walk cl cm CA CB cc cd W h.1.cls h.2.cls (by rw [h.1.pl, h.2.pl]) hcl htx)
 have cc2 := Lib.hid (fun W (h : StH b rs W cl CA cc UA uc RA rc ∧ StH b rs W cm CB cd UB ud RB rd) => users_walk b.us UA UB uc ud W h.1.us h.2.us hul)
 have cc3 := Lib.hid (fun W (h : StH b rs W cl CA cc UA uc RA rc ∧ StH b rs W cm CB cd UB ud RB rd) => recs_walk rs RA RB rc rd W h.1.rs h.2.rs)
 have q1 := tl_eq ⟨b.nm.toArray⟩ ⟨b.nm.toArray⟩
 rw [decide_eq_true rfl] at q1
 clear h1 h2
 go_enter Tryz.func15, Tryz.ntmps15
 go_wp2_with (first
  | go_skip
  | (refine aA rfl rfl hF ?_; clear hF; intro gg ww hF; simp only [nf] at hF)
  | (refine aB rfl rfl hF rfl ?_; clear hF; intro gg ww hF; simp only [nf] at hF)
  | (refine iL (t := 3) hF rfl rfl fun ho hx hb => ?_; refine aC (v := .int _ _) ho hb hx hF rfl rfl ?_; clear ho hx hb)
  | (refine iL hF rfl rfl fun ho hx hb => ?_; (first | refine aL ho hb hx hF rfl rfl ?_ | refine aC (v := .slice _ _ _) ho hb hx hF rfl rfl ?_ | refine aC (v := .string _) ho hb hx hF rfl rfl ?_ | refine aC (v := .bool _) ho hb hx hF rfl rfl ?_); clear ho hx hb)
  | (refine iS hF rfl rfl fun ho hx hb => ?_; (first | refine aS ho hb hx hF rfl rfl rfl rfl ?_ | refine aT (v := .int _ _) ho hb hx hF rfl rfl rfl rfl ?_ | refine aT (v := .slice _ _ _) ho hb hx hF rfl rfl rfl rfl ?_ | refine aT (v := .bool _) ho hb hx hF rfl rfl rfl rfl ?_); clear ho hx hb hF; intro ww hF; simp only [nf] at hF)
  )
 refine (cc1.out _ (HS.out _ hF.below)).mono ?_
 rintro _ w1 ⟨rfl, hbn⟩
 replace hF := hF.call hbn
 clear hbn
 go_wp2_with (first
  | go_skip
  | (refine aA rfl rfl hF ?_; clear hF; intro gg ww hF; simp only [nf] at hF)
  | (refine aB rfl rfl hF rfl ?_; clear hF; intro gg ww hF; simp only [nf] at hF)
  | (refine iL (t := 3) hF rfl rfl fun ho hx hb => ?_; refine aC (v := .int _ _) ho hb hx hF rfl rfl ?_; clear ho hx hb)
  | (refine iL hF rfl rfl fun ho hx hb => ?_; (first | refine aL ho hb hx hF rfl rfl ?_ | refine aC (v := .slice _ _ _) ho hb hx hF rfl rfl ?_ | refine aC (v := .string _) ho hb hx hF rfl rfl ?_ | refine aC (v := .bool _) ho hb hx hF rfl rfl ?_); clear ho hx hb)
  | (refine iS hF rfl rfl fun ho hx hb => ?_; (first | refine aS ho hb hx hF rfl rfl rfl rfl ?_ | refine aT (v := .int _ _) ho hb hx hF rfl rfl rfl rfl ?_ | refine aT (v := .slice _ _ _) ho hb hx hF rfl rfl rfl rfl ?_ | refine aT (v := .bool _) ho hb hx hF rfl rfl rfl rfl ?_); clear ho hx hb hF; intro ww hF; simp only [nf] at hF)
  )
 refine (cc2.out _ (HS.out _ hF.below)).mono ?_
 rintro _ w2 ⟨rfl, hbn⟩
 replace hF := hF.call hbn
 clear hbn
 go_wp2_with (first
  | go_skip
  | (refine aA rfl rfl hF ?_; clear hF; intro gg ww hF; simp only [nf] at hF)
  | (refine aB rfl rfl hF rfl ?_; clear hF; intro gg ww hF; simp only [nf] at hF)
  | (refine iL (t := 3) hF rfl rfl fun ho hx hb => ?_; refine aC (v := .int _ _) ho hb hx hF rfl rfl ?_; clear ho hx hb)
  | (refine iL hF rfl rfl fun ho hx hb => ?_; (first | refine aL ho hb hx hF rfl rfl ?_ | refine aC (v := .slice _ _ _) ho hb hx hF rfl rfl ?_ | refine aC (v := .string _) ho hb hx hF rfl rfl ?_ | refine aC (v := .bool _) ho hb hx hF rfl rfl ?_); clear ho hx hb)
  | (refine iS hF rfl rfl fun ho hx hb => ?_; (first | refine aS ho hb hx hF rfl rfl rfl rfl ?_ | refine aT (v := .int _ _) ho hb hx hF rfl rfl rfl rfl ?_ | refine aT (v := .slice _ _ _) ho hb hx hF rfl rfl rfl rfl ?_ | refine aT (v := .bool _) ho hb hx hF rfl rfl rfl rfl ?_); clear ho hx hb hF; intro ww hF; simp only [nf] at hF)
  )
 refine (cc3.out _ (HS.out _ hF.below)).mono ?_
 rintro _ w3 ⟨rfl, n, rfl⟩
 replace hF := hF.drewN n
 go_wp2_with (first
  | go_skip
  | (refine aA rfl rfl hF ?_; clear hF; intro gg ww hF; simp only [nf] at hF)
  | (refine aB rfl rfl hF rfl ?_; clear hF; intro gg ww hF; simp only [nf] at hF)
  | (refine iL (t := 3) hF rfl rfl fun ho hx hb => ?_; refine aC (v := .int _ _) ho hb hx hF rfl rfl ?_; clear ho hx hb)
  | (refine iL hF rfl rfl fun ho hx hb => ?_; (first | refine aL ho hb hx hF rfl rfl ?_ | refine aC (v := .slice _ _ _) ho hb hx hF rfl rfl ?_ | refine aC (v := .string _) ho hb hx hF rfl rfl ?_ | refine aC (v := .bool _) ho hb hx hF rfl rfl ?_); clear ho hx hb)
  | (refine iS hF rfl rfl fun ho hx hb => ?_; (first | refine aS ho hb hx hF rfl rfl rfl rfl ?_ | refine aT (v := .int _ _) ho hb hx hF rfl rfl rfl rfl ?_ | refine aT (v := .slice _ _ _) ho hb hx hF rfl rfl rfl rfl ?_ | refine aT (v := .bool _) ho hb hx hF rfl rfl rfl rfl ?_); clear ho hx hb hF; intro ww hF; simp only [nf] at hF)
  )
 go_ret
 exact ⟨rfl, hF.below⟩
end Go.Proofs.YtnhjgocdepbajaaGreat
