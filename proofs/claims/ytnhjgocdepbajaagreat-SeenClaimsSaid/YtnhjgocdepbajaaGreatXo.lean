/- countersignlaw22.Granted: an issuer that has given tokens. Condition: one of the clients, of the users. Printed by wip/tools/genXn2.py. -/
import Derived.Test.YtnhjgocdepbajaaGreatB4
set_option linter.unusedVariables false
set_option linter.unusedSimpArgs false
set_option maxRecDepth 20000
namespace Go.Proofs.YtnhjgocdepbajaaGreat
open Go.RowKit S19 C17 R
def sOp : ByteArray := ⟨#[111, 112, 101, 110, 105, 100]⟩
def recU (n u : Int) : Rc := { recC n u with used := true }
def recA (n u : Int) : Rc := recOf 5 104 300 false n u 0 103 (wtS sOp)
def recR (n u : Int) : Rc := recOf 6 105 600 false n u 0 103 (wtS sOp)
def grN (n u : Int) : Gr := ⟨104, 105, recC n u⟩
theorem ver_nat (n : Int) : ∃ m : Nat, verN n = (m : Int) ∧ m ≤ 32 := by
 have h0 := Int.emod_nonneg n (show (3 : Int) ≠ 0 by omega)
 have h1 := Int.emod_lt_of_pos n (show (0 : Int) < 3 by omega)
 exact ⟨(verN n).toNat, by unfold verN; omega, by unfold verN; omega⟩
theorem holds_right (n : Int) : K9.holdsB (chalN n) (K9.keyL (verN n)) = true := by
 obtain ⟨m, hm, hl⟩ := ver_nat n
 rw [chalN, hm, K9.holds_key m m (by omega) (by omega)]
 simp
theorem ev_redeem (n u : Int) (h : In3 n) (hu : In2 u) : redeemP [recS u, recC n u] ⟨104, 1, 0⟩ n 103 (redI n).data.toList (K9.keyL (verN n)) = ([recS u, recU n u, recA n u, recR n u], ⟨106, 1, 0⟩, grN n u, 0) := by
 have hf : foundP [recS u, recC n u] 0 4 n 103 = ([recS u, recC n u], some (recC n u)) := by
  have hfo : findO [recS u, recC n u] 0 4 103 = some (recC n u) := rfl
  rw [foundP, hfo]
  simp only [show (recC n u).client = n from rfl, ne_eq, not_true_eq_false, if_false, show (recC n u).used = false from rfl, Bool.false_eq_true]
 obtain ⟨_, _, e6, _⟩ := right_parts n
 have h2 : (recC n u).s2 = redI n := rfl
 have h6 : (recC n u).s6.data.toList = chalN n := e6
 rw [redeemP, show (⟨104, 1, 0⟩ : Sr).now = 0 from rfl, hf]
 simp only [h2, h6, holds_right n, ne_eq, not_true_eq_false, Bool.true_eq_false, or_self, if_false]
 rfl
theorem field_redirect (q : Wt) (W : World) : (Instr.field 39 (.agg q.arr) 1).run Tryz.prog W = .ok (.string q.t2) W := by kernel_rfl
set_option maxHeartbeats 16000000 in
theorem granted_walk (n u : Int) (hn3 : In3 n) (hu2 : In2 u) (w : World) :
  Calls Tryz.prog 20 #[.int .i64 n, .int .i64 u] w fun e w' => ∃ v, e = .returned (.tuple #[v, .agg (⟨106, 1, 0⟩ : Sr).arr, .agg (grN n u).arr, .int .i64 103]) ∧ NewSt bs0 [recS u, recU n u, recA n u, recR n u] w w' v ∧ Below w.heap.size w w' := by
 have hF := Fr.nil w
 have hnr : 1 ≤ n ∧ n ≤ 3 := by rcases hn3 with rfl | rfl | rfl <;> decide
 have ck := Lib.hid (fun W => right_walk n W (by omega))
 have cv := Lib.hid (fun W => verifier_walk n W (by omega))
 have hfr := field_redirect (rightW n)
 rw [show (rightW n).t2 = redI n from rfl] at hfr
 go_enter Tryz.func20, Tryz.ntmps20
 go_wp2_with (first
  | go_skip
  | (refine aA rfl rfl hF ?_; clear hF; intro gg ww hF; simp only [nf] at hF)
  | (refine aB rfl rfl hF rfl ?_; clear hF; intro gg ww hF; simp only [nf] at hF)
  | (refine iL (t := 3) hF rfl rfl fun ho hx hb => ?_; refine aC (v := .int _ _) ho hb hx hF rfl rfl ?_; clear ho hx hb)
  | (refine iL hF rfl rfl fun ho hx hb => ?_; (first | refine aL ho hb hx hF rfl rfl ?_ | refine aC (v := .slice _ _ _) ho hb hx hF rfl rfl ?_ | refine aC (v := .string _) ho hb hx hF rfl rfl ?_ | refine aC (v := .bool _) ho hb hx hF rfl rfl ?_); clear ho hx hb)
  | (refine iS hF rfl rfl fun ho hx hb => ?_; (first | refine aS ho hb hx hF rfl rfl rfl rfl ?_ | refine aT (v := .int _ _) ho hb hx hF rfl rfl rfl rfl ?_ | refine aT (v := .slice _ _ _) ho hb hx hF rfl rfl rfl rfl ?_ | refine aT (v := .bool _) ho hb hx hF rfl rfl rfl rfl ?_); clear ho hx hb hF; intro ww hF; simp only [nf] at hF)
  )
 refine (coded_walk n u hn3 hu2 _).mono ?_
 rintro _ w1 ⟨v, rfl, ⟨cl, CA, cc, UA, uc, RA, rc, rfl, hra, hN⟩, hbn⟩
 have hlo := hF.below.size
 replace hF := (hF.call hbn).grow (kp_agr fun x hx => (hF.mem hx).2)
 have hN' := Lib.hid (fun W (h : True ∧ Agr _ w1 W) => hN W h.2)
 clear hbn hN
 have hvz : (⟨(K9.keyL (verN n)).toArray⟩ : ByteArray).size ≤ 1000000 := by rw [size_mks (K9.keyL (verN n))]; have := key_size (verN n); omega
 have cr := fun W (hW : RecsAt W RA rc [recS u, recC n u]) => rredeem_walk bs0 [recS u, recC n u] ⟨104, 1, 0⟩ n 103 (redI n) ⟨(K9.keyL (verN n)).toArray⟩ cl CA cc UA uc RA rc W hW (by simp) (by decide) (by decide) hvz
 simp only [show (⟨(K9.keyL (verN n)).toArray⟩ : ByteArray).data.toList = K9.keyL (verN n) by simp, ev_redeem n u hn3 hu2, List.length_nil, List.length_cons, Nat.reduceAdd] at cr
 replace cr := Lib.hid cr
 clear hvz hnr
 go_wp2_with (first
  | go_skip
  | (refine aA rfl rfl hF ?_; clear hF; intro gg ww hF; simp only [nf] at hF)
  | (refine aB rfl rfl hF rfl ?_; clear hF; intro gg ww hF; simp only [nf] at hF)
  | (refine iL (t := 3) hF rfl rfl fun ho hx hb => ?_; refine aC (v := .int _ _) ho hb hx hF rfl rfl ?_; clear ho hx hb)
  | (refine iL hF rfl rfl fun ho hx hb => ?_; (first | refine aL ho hb hx hF rfl rfl ?_ | refine aC (v := .slice _ _ _) ho hb hx hF rfl rfl ?_ | refine aC (v := .string _) ho hb hx hF rfl rfl ?_ | refine aC (v := .bool _) ho hb hx hF rfl rfl ?_); clear ho hx hb)
  | (refine iS hF rfl rfl fun ho hx hb => ?_; (first | refine aS ho hb hx hF rfl rfl rfl rfl ?_ | refine aT (v := .int _ _) ho hb hx hF rfl rfl rfl rfl ?_ | refine aT (v := .slice _ _ _) ho hb hx hF rfl rfl rfl rfl ?_ | refine aT (v := .bool _) ho hb hx hF rfl rfl rfl rfl ?_); clear ho hx hb hF; intro ww hF; simp only [nf] at hF)
  )
 refine rgw [16] _ hF (List.Sublist.refl _) fun hF => ?_
 generalize ww.drew = W0 at hF ⊢
 refine tkb 0 3 [16] rfl rfl rfl rfl rfl ?_
 try simp only [nrm, Act.put]
 refine tkb 1 4 [16] rfl rfl rfl rfl rfl ?_
 try simp only [nrm, Act.put]
 refine tkf 2 rfl ?_
 try simp only [nrm, Act.put]
 refine tkf 3 rfl ?_
 try simp only [nrm, Act.put]
 refine tkf 4 rfl ?_
 try simp only [nrm, Act.put]
 refine tkf 7 rfl ?_
 try simp only [nrm, Act.put]
 refine wpAnyL_ready (rs := [5, 15]) (by kernel_rfl) (by simp) (AllReadyL.cons rfl (fun K hK => ?_) (AllReadyL.cons rfl (fun K hK => ?_) AllReadyL.nil))
 ·
  go_simp
  go_at_call 25
  with_reducible refine (ck.out _).mono ?_
  rintro _ ww ⟨rfl, hbn⟩
  replace hF := hF.call hbn
  refine hK.out _ _ (by first | exact .of hF _ | exact .of (hF.sub (by repeat (first | exact List.Sublist.slnil | apply List.Sublist.cons_cons | apply List.Sublist.cons))) _) (fun _ => ?_)
  clear hK K hbn
  try simp only [nrm, Act.put]
  refine tkf 6 rfl ?_ (v := .string (redI n)) (hv := fun W => by unfold execOp; simp only [Act.eval]; exact congrArg (fun r => r.andThen fun a w' => Result.ok (Next.value a) w') (hfr W))
  try simp only [nrm, Act.put]
  refine wpAnyL_ready (rs := [8, 15]) (by kernel_rfl) (by simp) (AllReadyL.cons rfl (fun K hK => ?_) (AllReadyL.cons rfl (fun K hK => ?_) AllReadyL.nil))
  ·
   go_simp
   go_at_call 54
   with_reducible refine (cv.out _).mono ?_
   rintro _ ww ⟨rfl, hbn⟩
   replace hF := hF.call hbn
   refine hK.out _ _ (by first | exact .of hF _ | exact .of (hF.sub (by repeat (first | exact List.Sublist.slnil | apply List.Sublist.cons_cons | apply List.Sublist.cons))) _) (fun _ => ?_)
   clear hK K hbn
   try simp only [nrm, Act.put]
   refine wpAnyL_ready (rs := [9, 15]) (by kernel_rfl) (by simp) (AllReadyL.cons rfl (fun K hK => ?_) (AllReadyL.cons rfl (fun K hK => ?_) AllReadyL.nil))
   ·
    go_simp
    go_at_call 53
    with_reducible refine (cr.out _ (hN'.out _ hF.data).rs).mono ?_
    rintro _ ww ⟨v2, rfl, A1, c1, rfl, hr1, hn1, hbn⟩
    have g1 := hF.below.size
    have hF0 := hF.call hbn
    replace hF := hF.rows hbn hr1 hn1 (fun W h => (hN'.out W h).rs)
    refine hK.out _ _ (by first | exact .of hF0 _ | exact .of (hF0.sub (by repeat (first | exact List.Sublist.slnil | apply List.Sublist.cons_cons | apply List.Sublist.cons))) _) (fun _ => ?_)
    clear hK K hbn hr1
    try simp only [nrm, Act.put]
    refine tkf 10 rfl ?_
    try simp only [nrm, Act.put]
    refine tkf 11 rfl ?_
    try simp only [nrm, Act.put]
    refine tkf 12 rfl ?_
    try simp only [nrm, Act.put]
    refine tkf 13 rfl ?_
    try simp only [nrm, Act.put]
    refine tkf 14 rfl ?_
    try simp only [nrm, Act.put]
    refine wpAnyL_ready (rs := [15]) (by kernel_rfl) (by simp) (AllReadyL.cons rfl (fun K hK => ?_) AllReadyL.nil)
    go_simp
    have hF1 := hF0.alloc 55 #[.int .i64 0, .int .i64 0, .int .i64 0, .int .i64 0, .int .i64 0, .bool false, .int .i64 0, .int .i64 0, .int .i64 0, .int .i64 0, .string ⟨#[]⟩, .string ⟨#[]⟩, .string ⟨#[]⟩, .string ⟨#[]⟩, .string ⟨#[]⟩, .string ⟨#[]⟩, .string ⟨#[]⟩]
    simp only [nf] at hF1
    replace hF := hF.alloc 55 #[.int .i64 0, .int .i64 0, .int .i64 0, .int .i64 0, .int .i64 0, .bool false, .int .i64 0, .int .i64 0, .int .i64 0, .int .i64 0, .string ⟨#[]⟩, .string ⟨#[]⟩, .string ⟨#[]⟩, .string ⟨#[]⟩, .string ⟨#[]⟩, .string ⟨#[]⟩, .string ⟨#[]⟩]
    simp only [nf] at hF
    refine hK.out _ _ (.of (hF1.sub (by repeat (first | exact List.Sublist.slnil | apply List.Sublist.cons_cons | apply List.Sublist.cons))) _) (fun _ => ?_)
    clear hK K hF1
    try simp only [nrm, Act.put]
    refine stw 16 3 hF rfl rfl rfl rfl rfl rfl rfl rfl ?_
    clear hF; intro ww hF; simp only [nf] at hF
    try simp only [nrm, Act.put]
    refine stw 17 4 hF rfl rfl rfl rfl rfl rfl rfl rfl ?_
    clear hF; intro ww hF; simp only [nf] at hF
    try simp only [nrm, Act.put]
    refine stw 18 5 hF rfl rfl rfl rfl rfl rfl rfl rfl ?_
    clear hF; intro ww hF; simp only [nf] at hF
    try simp only [nrm, Act.put]
    refine tkf 19 rfl ?_
    try simp only [nrm, Act.put]
    refine dnw ?_
    clear hF0
    go_wp2_with (first
     | go_skip
     | (refine aA rfl rfl hF ?_; clear hF; intro gg ww hF; simp only [nf] at hF)
     | (refine aB rfl rfl hF rfl ?_; clear hF; intro gg ww hF; simp only [nf] at hF)
     | (refine iL (t := 3) hF rfl rfl fun ho hx hb => ?_; refine aC (v := .int _ _) ho hb hx hF rfl rfl ?_; clear ho hx hb)
     | (refine iL hF rfl rfl fun ho hx hb => ?_; (first | refine aL ho hb hx hF rfl rfl ?_ | refine aC (v := .slice _ _ _) ho hb hx hF rfl rfl ?_ | refine aC (v := .string _) ho hb hx hF rfl rfl ?_ | refine aC (v := .bool _) ho hb hx hF rfl rfl ?_); clear ho hx hb)
     | (refine iS hF rfl rfl fun ho hx hb => ?_; (first | refine aS ho hb hx hF rfl rfl rfl rfl ?_ | refine aT (v := .int _ _) ho hb hx hF rfl rfl rfl rfl ?_ | refine aT (v := .slice _ _ _) ho hb hx hF rfl rfl rfl rfl ?_ | refine aT (v := .bool _) ho hb hx hF rfl rfl rfl rfl ?_); clear ho hx hb hF; intro ww hF; simp only [nf] at hF)
     )
    refine rgw [] [_, _, _] hF (.cons _ (.cons _ (.cons _ (.cons_cons _ (.cons_cons _ (.cons_cons _ .slnil)))))) fun hF => ?_
    refine tkb 0 0 [] rfl rfl rfl rfl rfl ?_
    try simp only [nrm, Act.put]
    refine tkb 1 1 [] rfl rfl rfl rfl rfl ?_
    try simp only [nrm, Act.put]
    refine tkb 2 2 [] rfl rfl rfl rfl rfl ?_
    try simp only [nrm, Act.put]
    refine tkf 3 rfl ?_
    try simp only [nrm, Act.put]
    refine stw 4 0 hF rfl rfl rfl rfl rfl rfl rfl rfl ?_
    clear hF; intro ww hF; simp only [nf] at hF
    try simp only [nrm, Act.put]
    refine stw 5 1 hF rfl rfl rfl rfl rfl rfl rfl rfl ?_
    clear hF; intro ww hF; simp only [nf] at hF
    try simp only [nrm, Act.put]
    refine stw 6 2 hF rfl rfl rfl rfl rfl rfl rfl rfl ?_
    clear hF; intro ww hF; simp only [nf] at hF
    try simp only [nrm, Act.put]
    refine tkf 7 rfl ?_
    try simp only [nrm, Act.put]
    refine dnw ?_
    go_wp2_with (first
     | go_skip
     | (refine aA rfl rfl hF ?_; clear hF; intro gg ww hF; simp only [nf] at hF)
     | (refine aB rfl rfl hF rfl ?_; clear hF; intro gg ww hF; simp only [nf] at hF)
     | (refine iL (t := 3) hF rfl rfl fun ho hx hb => ?_; refine aC (v := .int _ _) ho hb hx hF rfl rfl ?_; clear ho hx hb)
     | (refine iL hF rfl rfl fun ho hx hb => ?_; (first | refine aL ho hb hx hF rfl rfl ?_ | refine aC (v := .slice _ _ _) ho hb hx hF rfl rfl ?_ | refine aC (v := .string _) ho hb hx hF rfl rfl ?_ | refine aC (v := .bool _) ho hb hx hF rfl rfl ?_); clear ho hx hb)
     | (refine iS hF rfl rfl fun ho hx hb => ?_; (first | refine aS ho hb hx hF rfl rfl rfl rfl ?_ | refine aT (v := .int _ _) ho hb hx hF rfl rfl rfl rfl ?_ | refine aT (v := .slice _ _ _) ho hb hx hF rfl rfl rfl rfl ?_ | refine aT (v := .bool _) ho hb hx hF rfl rfl rfl rfl ?_); clear ho hx hb hF; intro ww hF; simp only [nf] at hF)
     )
    refine bodyPost_ret (results4 Tryz.results20 (res_cell 0 hF rfl rfl rfl) (res_cell 1 hF rfl rfl rfl) (res_cell 2 hF rfl rfl rfl) (.tmp _)) rfl ⟨_, rfl, ?_, hF.below⟩
    have hnr : NewRow w RA A1 rc c1 [recS u, recC n u] [recS u, recU n u, recA n u, recR n u] := NewRow.up g1 hn1
    have hfr : ∀ ad, A1 = some ad → w.heap.size ≤ ad.block := fun ad e => by
     rcases hnr with ⟨e1, _⟩ | h
     ·
      have := hra ad (e1 ▸ e); omega
     ·
      exact h ad e
    exact ⟨cl, _, _, _, _, A1, c1, rfl, hfr, fun w2 h2 => (hN'.out w2 ⟨trivial, hF.data.1.2.trans (h2.up hlo)⟩).with (recs_agr hF.data.2 hfr h2)⟩
   ·
    go_simp
    replace hF := hF.alloc 55 #[.int .i64 0, .int .i64 0, .int .i64 0, .int .i64 0, .int .i64 0, .bool false, .int .i64 0, .int .i64 0, .int .i64 0, .int .i64 0, .string ⟨#[]⟩, .string ⟨#[]⟩, .string ⟨#[]⟩, .string ⟨#[]⟩, .string ⟨#[]⟩, .string ⟨#[]⟩, .string ⟨#[]⟩]
    simp only [nf] at hF
    refine hK.out _ _ (by first | exact .of hF _ | exact .of (hF.sub (by repeat (first | exact List.Sublist.slnil | apply List.Sublist.cons_cons | apply List.Sublist.cons))) _) (fun _ => ?_)
    clear hK K
    try simp only [nrm, Act.put]
    refine wpAnyL_ready (rs := [9]) (by kernel_rfl) (by simp) (AllReadyL.cons rfl (fun K hK => ?_) AllReadyL.nil)
    go_simp
    go_at_call 53
    with_reducible refine (cr.out _ (hN'.out _ hF.data).rs).mono ?_
    rintro _ ww ⟨v2, rfl, A1, c1, rfl, hr1, hn1, hbn⟩
    have g1 := hF.below.size
    have hF0 := hF.call hbn
    replace hF := hF.rows hbn hr1 hn1 (fun W h => (hN'.out W h).rs)
    refine hK.out _ _ (by first | exact .of hF0 _ | exact .of (hF0.sub (by repeat (first | exact List.Sublist.slnil | apply List.Sublist.cons_cons | apply List.Sublist.cons))) _) (fun _ => ?_)
    clear hK K hbn hr1
    try simp only [nrm, Act.put]
    refine tkf 10 rfl ?_
    try simp only [nrm, Act.put]
    refine tkf 11 rfl ?_
    try simp only [nrm, Act.put]
    refine tkf 12 rfl ?_
    try simp only [nrm, Act.put]
    refine tkf 13 rfl ?_
    try simp only [nrm, Act.put]
    refine tkf 14 rfl ?_
    try simp only [nrm, Act.put]
    refine stw 16 3 hF rfl rfl rfl rfl rfl rfl rfl rfl ?_
    clear hF; intro ww hF; simp only [nf] at hF
    try simp only [nrm, Act.put]
    refine stw 17 4 hF rfl rfl rfl rfl rfl rfl rfl rfl ?_
    clear hF; intro ww hF; simp only [nf] at hF
    try simp only [nrm, Act.put]
    refine stw 18 5 hF rfl rfl rfl rfl rfl rfl rfl rfl ?_
    clear hF; intro ww hF; simp only [nf] at hF
    try simp only [nrm, Act.put]
    refine tkf 19 rfl ?_
    try simp only [nrm, Act.put]
    refine dnw ?_
    clear hF0
    go_wp2_with (first
     | go_skip
     | (refine aA rfl rfl hF ?_; clear hF; intro gg ww hF; simp only [nf] at hF)
     | (refine aB rfl rfl hF rfl ?_; clear hF; intro gg ww hF; simp only [nf] at hF)
     | (refine iL (t := 3) hF rfl rfl fun ho hx hb => ?_; refine aC (v := .int _ _) ho hb hx hF rfl rfl ?_; clear ho hx hb)
     | (refine iL hF rfl rfl fun ho hx hb => ?_; (first | refine aL ho hb hx hF rfl rfl ?_ | refine aC (v := .slice _ _ _) ho hb hx hF rfl rfl ?_ | refine aC (v := .string _) ho hb hx hF rfl rfl ?_ | refine aC (v := .bool _) ho hb hx hF rfl rfl ?_); clear ho hx hb)
     | (refine iS hF rfl rfl fun ho hx hb => ?_; (first | refine aS ho hb hx hF rfl rfl rfl rfl ?_ | refine aT (v := .int _ _) ho hb hx hF rfl rfl rfl rfl ?_ | refine aT (v := .slice _ _ _) ho hb hx hF rfl rfl rfl rfl ?_ | refine aT (v := .bool _) ho hb hx hF rfl rfl rfl rfl ?_); clear ho hx hb hF; intro ww hF; simp only [nf] at hF)
     )
    refine rgw [] [_, _, _] hF (.cons _ (.cons _ (.cons _ (.cons_cons _ (.cons_cons _ (.cons_cons _ .slnil)))))) fun hF => ?_
    refine tkb 0 0 [] rfl rfl rfl rfl rfl ?_
    try simp only [nrm, Act.put]
    refine tkb 1 1 [] rfl rfl rfl rfl rfl ?_
    try simp only [nrm, Act.put]
    refine tkb 2 2 [] rfl rfl rfl rfl rfl ?_
    try simp only [nrm, Act.put]
    refine tkf 3 rfl ?_
    try simp only [nrm, Act.put]
    refine stw 4 0 hF rfl rfl rfl rfl rfl rfl rfl rfl ?_
    clear hF; intro ww hF; simp only [nf] at hF
    try simp only [nrm, Act.put]
    refine stw 5 1 hF rfl rfl rfl rfl rfl rfl rfl rfl ?_
    clear hF; intro ww hF; simp only [nf] at hF
    try simp only [nrm, Act.put]
    refine stw 6 2 hF rfl rfl rfl rfl rfl rfl rfl rfl ?_
    clear hF; intro ww hF; simp only [nf] at hF
    try simp only [nrm, Act.put]
    refine tkf 7 rfl ?_
    try simp only [nrm, Act.put]
    refine dnw ?_
    go_wp2_with (first
     | go_skip
     | (refine aA rfl rfl hF ?_; clear hF; intro gg ww hF; simp only [nf] at hF)
     | (refine aB rfl rfl hF rfl ?_; clear hF; intro gg ww hF; simp only [nf] at hF)
     | (refine iL (t := 3) hF rfl rfl fun ho hx hb => ?_; refine aC (v := .int _ _) ho hb hx hF rfl rfl ?_; clear ho hx hb)
     | (refine iL hF rfl rfl fun ho hx hb => ?_; (first | refine aL ho hb hx hF rfl rfl ?_ | refine aC (v := .slice _ _ _) ho hb hx hF rfl rfl ?_ | refine aC (v := .string _) ho hb hx hF rfl rfl ?_ | refine aC (v := .bool _) ho hb hx hF rfl rfl ?_); clear ho hx hb)
     | (refine iS hF rfl rfl fun ho hx hb => ?_; (first | refine aS ho hb hx hF rfl rfl rfl rfl ?_ | refine aT (v := .int _ _) ho hb hx hF rfl rfl rfl rfl ?_ | refine aT (v := .slice _ _ _) ho hb hx hF rfl rfl rfl rfl ?_ | refine aT (v := .bool _) ho hb hx hF rfl rfl rfl rfl ?_); clear ho hx hb hF; intro ww hF; simp only [nf] at hF)
     )
    refine bodyPost_ret (results4 Tryz.results20 (res_cell 0 hF rfl rfl rfl) (res_cell 1 hF rfl rfl rfl) (res_cell 2 hF rfl rfl rfl) (.tmp _)) rfl ⟨_, rfl, ?_, hF.below⟩
    have hnr : NewRow w RA A1 rc c1 [recS u, recC n u] [recS u, recU n u, recA n u, recR n u] := NewRow.up g1 hn1
    have hfr : ∀ ad, A1 = some ad → w.heap.size ≤ ad.block := fun ad e => by
     rcases hnr with ⟨e1, _⟩ | h
     ·
      have := hra ad (e1 ▸ e); omega
     ·
      exact h ad e
    exact ⟨cl, _, _, _, _, A1, c1, rfl, hfr, fun w2 h2 => (hN'.out w2 ⟨trivial, hF.data.1.2.trans (h2.up hlo)⟩).with (recs_agr hF.data.2 hfr h2)⟩
  ·
   go_simp
   replace hF := hF.alloc 55 #[.int .i64 0, .int .i64 0, .int .i64 0, .int .i64 0, .int .i64 0, .bool false, .int .i64 0, .int .i64 0, .int .i64 0, .int .i64 0, .string ⟨#[]⟩, .string ⟨#[]⟩, .string ⟨#[]⟩, .string ⟨#[]⟩, .string ⟨#[]⟩, .string ⟨#[]⟩, .string ⟨#[]⟩]
   simp only [nf] at hF
   refine hK.out _ _ (by first | exact .of hF _ | exact .of (hF.sub (by repeat (first | exact List.Sublist.slnil | apply List.Sublist.cons_cons | apply List.Sublist.cons))) _) (fun _ => ?_)
   clear hK K
   try simp only [nrm, Act.put]
   refine wpAnyL_ready (rs := [8]) (by kernel_rfl) (by simp) (AllReadyL.cons rfl (fun K hK => ?_) AllReadyL.nil)
   go_simp
   go_at_call 54
   with_reducible refine (cv.out _).mono ?_
   rintro _ ww ⟨rfl, hbn⟩
   replace hF := hF.call hbn
   refine hK.out _ _ (by first | exact .of hF _ | exact .of (hF.sub (by repeat (first | exact List.Sublist.slnil | apply List.Sublist.cons_cons | apply List.Sublist.cons))) _) (fun _ => ?_)
   clear hK K hbn
   try simp only [nrm, Act.put]
   refine wpAnyL_ready (rs := [9]) (by kernel_rfl) (by simp) (AllReadyL.cons rfl (fun K hK => ?_) AllReadyL.nil)
   go_simp
   go_at_call 53
   with_reducible refine (cr.out _ (hN'.out _ hF.data).rs).mono ?_
   rintro _ ww ⟨v2, rfl, A1, c1, rfl, hr1, hn1, hbn⟩
   have g1 := hF.below.size
   have hF0 := hF.call hbn
   replace hF := hF.rows hbn hr1 hn1 (fun W h => (hN'.out W h).rs)
   refine hK.out _ _ (by first | exact .of hF0 _ | exact .of (hF0.sub (by repeat (first | exact List.Sublist.slnil | apply List.Sublist.cons_cons | apply List.Sublist.cons))) _) (fun _ => ?_)
   clear hK K hbn hr1
   try simp only [nrm, Act.put]
   refine tkf 10 rfl ?_
   try simp only [nrm, Act.put]
   refine tkf 11 rfl ?_
   try simp only [nrm, Act.put]
   refine tkf 12 rfl ?_
   try simp only [nrm, Act.put]
   refine tkf 13 rfl ?_
   try simp only [nrm, Act.put]
   refine tkf 14 rfl ?_
   try simp only [nrm, Act.put]
   refine stw 16 3 hF rfl rfl rfl rfl rfl rfl rfl rfl ?_
   clear hF; intro ww hF; simp only [nf] at hF
   try simp only [nrm, Act.put]
   refine stw 17 4 hF rfl rfl rfl rfl rfl rfl rfl rfl ?_
   clear hF; intro ww hF; simp only [nf] at hF
   try simp only [nrm, Act.put]
   refine stw 18 5 hF rfl rfl rfl rfl rfl rfl rfl rfl ?_
   clear hF; intro ww hF; simp only [nf] at hF
   try simp only [nrm, Act.put]
   refine tkf 19 rfl ?_
   try simp only [nrm, Act.put]
   refine dnw ?_
   clear hF0
   go_wp2_with (first
    | go_skip
    | (refine aA rfl rfl hF ?_; clear hF; intro gg ww hF; simp only [nf] at hF)
    | (refine aB rfl rfl hF rfl ?_; clear hF; intro gg ww hF; simp only [nf] at hF)
    | (refine iL (t := 3) hF rfl rfl fun ho hx hb => ?_; refine aC (v := .int _ _) ho hb hx hF rfl rfl ?_; clear ho hx hb)
    | (refine iL hF rfl rfl fun ho hx hb => ?_; (first | refine aL ho hb hx hF rfl rfl ?_ | refine aC (v := .slice _ _ _) ho hb hx hF rfl rfl ?_ | refine aC (v := .string _) ho hb hx hF rfl rfl ?_ | refine aC (v := .bool _) ho hb hx hF rfl rfl ?_); clear ho hx hb)
    | (refine iS hF rfl rfl fun ho hx hb => ?_; (first | refine aS ho hb hx hF rfl rfl rfl rfl ?_ | refine aT (v := .int _ _) ho hb hx hF rfl rfl rfl rfl ?_ | refine aT (v := .slice _ _ _) ho hb hx hF rfl rfl rfl rfl ?_ | refine aT (v := .bool _) ho hb hx hF rfl rfl rfl rfl ?_); clear ho hx hb hF; intro ww hF; simp only [nf] at hF)
    )
   refine rgw [] [_, _, _] hF (.cons _ (.cons _ (.cons _ (.cons_cons _ (.cons_cons _ (.cons_cons _ .slnil)))))) fun hF => ?_
   refine tkb 0 0 [] rfl rfl rfl rfl rfl ?_
   try simp only [nrm, Act.put]
   refine tkb 1 1 [] rfl rfl rfl rfl rfl ?_
   try simp only [nrm, Act.put]
   refine tkb 2 2 [] rfl rfl rfl rfl rfl ?_
   try simp only [nrm, Act.put]
   refine tkf 3 rfl ?_
   try simp only [nrm, Act.put]
   refine stw 4 0 hF rfl rfl rfl rfl rfl rfl rfl rfl ?_
   clear hF; intro ww hF; simp only [nf] at hF
   try simp only [nrm, Act.put]
   refine stw 5 1 hF rfl rfl rfl rfl rfl rfl rfl rfl ?_
   clear hF; intro ww hF; simp only [nf] at hF
   try simp only [nrm, Act.put]
   refine stw 6 2 hF rfl rfl rfl rfl rfl rfl rfl rfl ?_
   clear hF; intro ww hF; simp only [nf] at hF
   try simp only [nrm, Act.put]
   refine tkf 7 rfl ?_
   try simp only [nrm, Act.put]
   refine dnw ?_
   go_wp2_with (first
    | go_skip
    | (refine aA rfl rfl hF ?_; clear hF; intro gg ww hF; simp only [nf] at hF)
    | (refine aB rfl rfl hF rfl ?_; clear hF; intro gg ww hF; simp only [nf] at hF)
    | (refine iL (t := 3) hF rfl rfl fun ho hx hb => ?_; refine aC (v := .int _ _) ho hb hx hF rfl rfl ?_; clear ho hx hb)
    | (refine iL hF rfl rfl fun ho hx hb => ?_; (first | refine aL ho hb hx hF rfl rfl ?_ | refine aC (v := .slice _ _ _) ho hb hx hF rfl rfl ?_ | refine aC (v := .string _) ho hb hx hF rfl rfl ?_ | refine aC (v := .bool _) ho hb hx hF rfl rfl ?_); clear ho hx hb)
    | (refine iS hF rfl rfl fun ho hx hb => ?_; (first | refine aS ho hb hx hF rfl rfl rfl rfl ?_ | refine aT (v := .int _ _) ho hb hx hF rfl rfl rfl rfl ?_ | refine aT (v := .slice _ _ _) ho hb hx hF rfl rfl rfl rfl ?_ | refine aT (v := .bool _) ho hb hx hF rfl rfl rfl rfl ?_); clear ho hx hb hF; intro ww hF; simp only [nf] at hF)
    )
   refine bodyPost_ret (results4 Tryz.results20 (res_cell 0 hF rfl rfl rfl) (res_cell 1 hF rfl rfl rfl) (res_cell 2 hF rfl rfl rfl) (.tmp _)) rfl ⟨_, rfl, ?_, hF.below⟩
   have hnr : NewRow w RA A1 rc c1 [recS u, recC n u] [recS u, recU n u, recA n u, recR n u] := NewRow.up g1 hn1
   have hfr : ∀ ad, A1 = some ad → w.heap.size ≤ ad.block := fun ad e => by
    rcases hnr with ⟨e1, _⟩ | h
    ·
     have := hra ad (e1 ▸ e); omega
    ·
     exact h ad e
   exact ⟨cl, _, _, _, _, A1, c1, rfl, hfr, fun w2 h2 => (hN'.out w2 ⟨trivial, hF.data.1.2.trans (h2.up hlo)⟩).with (recs_agr hF.data.2 hfr h2)⟩
 ·
  go_simp
  replace hF := hF.alloc 55 #[.int .i64 0, .int .i64 0, .int .i64 0, .int .i64 0, .int .i64 0, .bool false, .int .i64 0, .int .i64 0, .int .i64 0, .int .i64 0, .string ⟨#[]⟩, .string ⟨#[]⟩, .string ⟨#[]⟩, .string ⟨#[]⟩, .string ⟨#[]⟩, .string ⟨#[]⟩, .string ⟨#[]⟩]
  simp only [nf] at hF
  refine hK.out _ _ (by first | exact .of hF _ | exact .of (hF.sub (by repeat (first | exact List.Sublist.slnil | apply List.Sublist.cons_cons | apply List.Sublist.cons))) _) (fun _ => ?_)
  clear hK K
  try simp only [nrm, Act.put]
  refine wpAnyL_ready (rs := [5]) (by kernel_rfl) (by simp) (AllReadyL.cons rfl (fun K hK => ?_) AllReadyL.nil)
  go_simp
  go_at_call 25
  with_reducible refine (ck.out _).mono ?_
  rintro _ ww ⟨rfl, hbn⟩
  replace hF := hF.call hbn
  refine hK.out _ _ (by first | exact .of hF _ | exact .of (hF.sub (by repeat (first | exact List.Sublist.slnil | apply List.Sublist.cons_cons | apply List.Sublist.cons))) _) (fun _ => ?_)
  clear hK K hbn
  try simp only [nrm, Act.put]
  refine tkf 6 rfl ?_ (v := .string (redI n)) (hv := fun W => by unfold execOp; simp only [Act.eval]; exact congrArg (fun r => r.andThen fun a w' => Result.ok (Next.value a) w') (hfr W))
  try simp only [nrm, Act.put]
  refine wpAnyL_ready (rs := [8]) (by kernel_rfl) (by simp) (AllReadyL.cons rfl (fun K hK => ?_) AllReadyL.nil)
  go_simp
  go_at_call 54
  with_reducible refine (cv.out _).mono ?_
  rintro _ ww ⟨rfl, hbn⟩
  replace hF := hF.call hbn
  refine hK.out _ _ (by first | exact .of hF _ | exact .of (hF.sub (by repeat (first | exact List.Sublist.slnil | apply List.Sublist.cons_cons | apply List.Sublist.cons))) _) (fun _ => ?_)
  clear hK K hbn
  try simp only [nrm, Act.put]
  refine wpAnyL_ready (rs := [9]) (by kernel_rfl) (by simp) (AllReadyL.cons rfl (fun K hK => ?_) AllReadyL.nil)
  go_simp
  go_at_call 53
  with_reducible refine (cr.out _ (hN'.out _ hF.data).rs).mono ?_
  rintro _ ww ⟨v2, rfl, A1, c1, rfl, hr1, hn1, hbn⟩
  have g1 := hF.below.size
  have hF0 := hF.call hbn
  replace hF := hF.rows hbn hr1 hn1 (fun W h => (hN'.out W h).rs)
  refine hK.out _ _ (by first | exact .of hF0 _ | exact .of (hF0.sub (by repeat (first | exact List.Sublist.slnil | apply List.Sublist.cons_cons | apply List.Sublist.cons))) _) (fun _ => ?_)
  clear hK K hbn hr1
  try simp only [nrm, Act.put]
  refine tkf 10 rfl ?_
  try simp only [nrm, Act.put]
  refine tkf 11 rfl ?_
  try simp only [nrm, Act.put]
  refine tkf 12 rfl ?_
  try simp only [nrm, Act.put]
  refine tkf 13 rfl ?_
  try simp only [nrm, Act.put]
  refine tkf 14 rfl ?_
  try simp only [nrm, Act.put]
  refine stw 16 3 hF rfl rfl rfl rfl rfl rfl rfl rfl ?_
  clear hF; intro ww hF; simp only [nf] at hF
  try simp only [nrm, Act.put]
  refine stw 17 4 hF rfl rfl rfl rfl rfl rfl rfl rfl ?_
  clear hF; intro ww hF; simp only [nf] at hF
  try simp only [nrm, Act.put]
  refine stw 18 5 hF rfl rfl rfl rfl rfl rfl rfl rfl ?_
  clear hF; intro ww hF; simp only [nf] at hF
  try simp only [nrm, Act.put]
  refine tkf 19 rfl ?_
  try simp only [nrm, Act.put]
  refine dnw ?_
  clear hF0
  go_wp2_with (first
   | go_skip
   | (refine aA rfl rfl hF ?_; clear hF; intro gg ww hF; simp only [nf] at hF)
   | (refine aB rfl rfl hF rfl ?_; clear hF; intro gg ww hF; simp only [nf] at hF)
   | (refine iL (t := 3) hF rfl rfl fun ho hx hb => ?_; refine aC (v := .int _ _) ho hb hx hF rfl rfl ?_; clear ho hx hb)
   | (refine iL hF rfl rfl fun ho hx hb => ?_; (first | refine aL ho hb hx hF rfl rfl ?_ | refine aC (v := .slice _ _ _) ho hb hx hF rfl rfl ?_ | refine aC (v := .string _) ho hb hx hF rfl rfl ?_ | refine aC (v := .bool _) ho hb hx hF rfl rfl ?_); clear ho hx hb)
   | (refine iS hF rfl rfl fun ho hx hb => ?_; (first | refine aS ho hb hx hF rfl rfl rfl rfl ?_ | refine aT (v := .int _ _) ho hb hx hF rfl rfl rfl rfl ?_ | refine aT (v := .slice _ _ _) ho hb hx hF rfl rfl rfl rfl ?_ | refine aT (v := .bool _) ho hb hx hF rfl rfl rfl rfl ?_); clear ho hx hb hF; intro ww hF; simp only [nf] at hF)
   )
  refine rgw [] [_, _, _] hF (.cons _ (.cons _ (.cons _ (.cons_cons _ (.cons_cons _ (.cons_cons _ .slnil)))))) fun hF => ?_
  refine tkb 0 0 [] rfl rfl rfl rfl rfl ?_
  try simp only [nrm, Act.put]
  refine tkb 1 1 [] rfl rfl rfl rfl rfl ?_
  try simp only [nrm, Act.put]
  refine tkb 2 2 [] rfl rfl rfl rfl rfl ?_
  try simp only [nrm, Act.put]
  refine tkf 3 rfl ?_
  try simp only [nrm, Act.put]
  refine stw 4 0 hF rfl rfl rfl rfl rfl rfl rfl rfl ?_
  clear hF; intro ww hF; simp only [nf] at hF
  try simp only [nrm, Act.put]
  refine stw 5 1 hF rfl rfl rfl rfl rfl rfl rfl rfl ?_
  clear hF; intro ww hF; simp only [nf] at hF
  try simp only [nrm, Act.put]
  refine stw 6 2 hF rfl rfl rfl rfl rfl rfl rfl rfl ?_
  clear hF; intro ww hF; simp only [nf] at hF
  try simp only [nrm, Act.put]
  refine tkf 7 rfl ?_
  try simp only [nrm, Act.put]
  refine dnw ?_
  go_wp2_with (first
   | go_skip
   | (refine aA rfl rfl hF ?_; clear hF; intro gg ww hF; simp only [nf] at hF)
   | (refine aB rfl rfl hF rfl ?_; clear hF; intro gg ww hF; simp only [nf] at hF)
   | (refine iL (t := 3) hF rfl rfl fun ho hx hb => ?_; refine aC (v := .int _ _) ho hb hx hF rfl rfl ?_; clear ho hx hb)
   | (refine iL hF rfl rfl fun ho hx hb => ?_; (first | refine aL ho hb hx hF rfl rfl ?_ | refine aC (v := .slice _ _ _) ho hb hx hF rfl rfl ?_ | refine aC (v := .string _) ho hb hx hF rfl rfl ?_ | refine aC (v := .bool _) ho hb hx hF rfl rfl ?_); clear ho hx hb)
   | (refine iS hF rfl rfl fun ho hx hb => ?_; (first | refine aS ho hb hx hF rfl rfl rfl rfl ?_ | refine aT (v := .int _ _) ho hb hx hF rfl rfl rfl rfl ?_ | refine aT (v := .slice _ _ _) ho hb hx hF rfl rfl rfl rfl ?_ | refine aT (v := .bool _) ho hb hx hF rfl rfl rfl rfl ?_); clear ho hx hb hF; intro ww hF; simp only [nf] at hF)
   )
  refine bodyPost_ret (results4 Tryz.results20 (res_cell 0 hF rfl rfl rfl) (res_cell 1 hF rfl rfl rfl) (res_cell 2 hF rfl rfl rfl) (.tmp _)) rfl ⟨_, rfl, ?_, hF.below⟩
  have hnr : NewRow w RA A1 rc c1 [recS u, recC n u] [recS u, recU n u, recA n u, recR n u] := NewRow.up g1 hn1
  have hfr : ∀ ad, A1 = some ad → w.heap.size ≤ ad.block := fun ad e => by
   rcases hnr with ⟨e1, _⟩ | h
   ·
    have := hra ad (e1 ▸ e); omega
   ·
    exact h ad e
  exact ⟨cl, _, _, _, _, A1, c1, rfl, hfr, fun w2 h2 => (hN'.out w2 ⟨trivial, hF.data.1.2.trans (h2.up hlo)⟩).with (recs_agr hF.data.2 hfr h2)⟩
end Go.Proofs.YtnhjgocdepbajaaGreat
