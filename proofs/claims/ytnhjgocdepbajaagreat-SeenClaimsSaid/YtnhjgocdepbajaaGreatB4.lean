/- What an issuer is behind a flow: the plain values. No program here. -/
import Derived.Test.YtnhjgocdepbajaaGreatXd
import Derived.Test.YtnhjgocdepbajaaGreatB3
set_option linter.unusedVariables false
set_option linter.unusedSimpArgs false
set_option maxRecDepth 20000
namespace Go.Proofs.YtnhjgocdepbajaaGreat
open Go.RowKit S19 C17 R
def In3 (n : Int) : Prop := n = 1 ∨ n = 2 ∨ n = 3
def In2 (u : Int) : Prop := u = 1 ∨ u = 2
theorem sess_word (n : Int) (h : In3 n) : S16.wordB (115 :: K9.keyL n) = true := by
 rcases h with rfl | rfl | rfl <;> decide +kernel
theorem right_parts (n : Int) : (rightW n).t1.data.toList = sCode ∧ (rightW n).t7.data.toList = sS256 ∧ (rightW n).t6.data.toList = chalN n ∧ (rightW n).t4.data.toList = 115 :: K9.keyL n ∧ (rightW n).t5.data.toList = [110] ∧ (rightW n).t3.data.toList = sOpenid ∧ (rightW n).t2 = redI n := by
 refine ⟨rfl, rfl, ?_, ?_, rfl, rfl, rfl⟩
 ·
  show (chalN n).toArray.toList = chalN n
  simp
 ·
  show ((⟨#[115]⟩ : ByteArray) ++ ⟨(K9.keyL n).toArray⟩).data.toList = _
  rw [ByteArray.data_append]
  simp
theorem chal_may (n : Int) : K9.mayC (chalN n) = true := by
 have h0 := Int.emod_nonneg n (show (3 : Int) ≠ 0 by omega)
 have h1 := Int.emod_lt_of_pos n (show (0 : Int) < 3 by omega)
 obtain ⟨m, hm⟩ : ∃ m : Nat, verN n = (m : Int) := ⟨(verN n).toNat, by unfold verN; omega⟩
 rw [chalN, hm]
 exact K9.may_hash m (by unfold verN at hm; omega)
def clN (n : Int) : ClP := if n = 1 then ⟨tC1, 4, [uC1, uC1b], sProf⟩ else if n = 2 then ⟨tC2, 5, [uC2], sAop⟩ else ⟨tPub, 0, [uPub], sOpenid⟩
theorem clAt_in (n : Int) (h : In3 n) : clAt bs0.cls n = some (clN n) := by rcases h with rfl | rfl | rfl <;> rfl
theorem right_may (n : Int) (h : In3 n) : checkE (clN n) (rightW n) = 0 := by
 obtain ⟨e1, e7, e6, e4, e5, e3, e2⟩ := right_parts n
 have hred : (clN n).red.contains (redI n).data.toList = true := by rcases h with rfl | rfl | rfl <;> decide +kernel
 have hsc : S16.withinB (splitC 32 sOpenid) (splitC 32 (clN n).sc) = true := by rcases h with rfl | rfl | rfl <;> decide +kernel
 have h5 : S16.wordB [110] = true := by decide +kernel
 rw [checkE, e1, e7, e6, e4, e5, e3, e2, hred, chal_may n, sess_word n h, h5, hsc]
 simp
def rec1 (n : Int) : Rc := recOf 1 100 60 false n 0 0 0 (rightW n)
def recS (u : Int) : Rc := recOf 2 101 900 false 0 u 0 0 wt0
def recD (n : Int) : Rc := recOf 3 102 120 false n 0 101 0 (rightW n)
def recC (n u : Int) : Rc := recOf 4 103 40 false n u 101 103 (rightW n)
theorem ev_push (n : Int) (h : In3 n) : pushP bs0.cls [] sr0 n (rightW n) = ([rec1 n], ⟨101, 1, 0⟩, 100, 0) := by
 have hp : pushE bs0.cls [] sr0 n (rightW n) = 0 := by
  rw [pushE, clAt_in n h]
  simp only [right_may n h, ne_eq, not_true_eq_false, if_false]
  rfl
 rw [pushP, if_pos hp]
 rfl
def idN (n : Int) : List UInt8 := (clN n).id
theorem find_in (n : Int) (h : In3 n) : findP (idN n) bs0.cls = some (n - 1).toNat := by rcases h with rfl | rfl | rfl <;> rfl
theorem ev_enter (n : Int) (h : In3 n) : enterP bs0.cls [rec1 n] ⟨101, 1, 0⟩ 0 (idN n) 100 = ([recS 0, recD n], ⟨103, 1, 0⟩, 101, 102, 0) := by
 rw [enterP, find_in n h]
 rcases h with rfl | rfl | rfl <;> rfl
def userN (u : Int) : UsP := if u = 1 then ⟨[97, 108, 105, 99, 101], 10⟩ else ⟨[98, 111, 98], 11⟩
theorem login_in (u : Int) (h : In2 u) : loginI bs0.us (userN u).nm (K9.keyL (userN u).pass) = u := by
 rcases h with rfl | rfl
 ·
  show (if K9.keyL 10 = K9.keyL 10 then ((0 : Nat) : Int) + 1 else 0) = 1
  rw [if_pos rfl]; rfl
 ·
  show (if K9.keyL 11 = K9.keyL 11 then ((1 : Nat) : Int) + 1 else 0) = 2
  rw [if_pos rfl]; rfl
theorem ev_login (n u : Int) (h : In3 n) (hu : In2 u) : loginP bs0.us [recS 0, recD n] 0 101 102 (userN u).nm (K9.keyL (userN u).pass) = ([recS u, recD n], 0) := by
 have hb : bothO [recS 0, recD n] 0 101 102 = some (recS 0, recD n) := by rcases h with rfl | rfl | rfl <;> rfl
 rw [loginP, hb]
 simp only [login_in u hu]
 rw [if_neg (by rcases hu with rfl | rfl <;> decide)]
 rfl
theorem ev_agree (n u : Int) (h : In3 n) (hu : In2 u) : agreeP [recS u, recD n] ⟨103, 1, 0⟩ 101 102 true = ([recS u, recC n u], ⟨104, 1, 0⟩, recD n, 103, 0) := by
 have hb : bothO [recS u, recD n] 0 101 102 = some (recS u, recD n) := rfl
 have hu0 : (recS u).user ≠ 0 := by rcases hu with rfl | rfl <;> decide
 rw [agreeP, show (⟨103, 1, 0⟩ : Sr).now = 0 from rfl, hb]
 simp only [hu0, if_false]
 rfl
end Go.Proofs.YtnhjgocdepbajaaGreat
/- countersignlaw22.Coded: an issuer that has given a code. Condition: one of the clients, of the users. Printed by wip/tools/genXm.py. -/
set_option linter.unusedVariables false
set_option linter.unusedSimpArgs false
set_option maxRecDepth 20000
namespace Go.Proofs.YtnhjgocdepbajaaGreat
open Go.RowKit S19 C17 R
def Agr (lo : Nat) (w w2 : World) : Prop := w.heap.size ≤ w2.heap.size ∧ ∀ k, lo ≤ k → k < w.heap.size → w2.heap[k]? = w.heap[k]?
theorem Agr.refl (lo : Nat) (w : World) : Agr lo w w := ⟨Nat.le_refl _, fun _ _ _ => rfl⟩
theorem Agr.up {lo hi : Nat} {w w2 : World} (h : Agr lo w w2) (hl : lo ≤ hi) : Agr hi w w2 := ⟨h.1, fun k h1 h2 => h.2 k (by omega) h2⟩
theorem Agr.trans {lo : Nat} {a b c : World} (h : Agr lo a b) (k : Agr lo b c) : Agr lo a c := ⟨Nat.le_trans h.1 k.1, fun j h1 h2 => (k.2 j h1 (Nat.lt_of_lt_of_le h2 h.1)).trans (h.2 j h1 h2)⟩
theorem kp_agr {lo : Nat} {w : World} {bs : List Bx} (h : ∀ x ∈ bs, x.1 < lo) : Kp w bs (Agr lo w) := fun w' hs hk => ⟨hs, fun k h1 h2 => hk k h2 fun x hx e => by have := h x hx; omega⟩
theorem recs_agr {lo : Nat} {w w2 : World} {A : Option Addr} {c : Nat} {rs : List Rc} (h : RecsAt w A c rs) (hn : ∀ ad, A = some ad → lo ≤ ad.block) (ha : Agr lo w w2) : RecsAt w2 A c rs := by
 refine ⟨h.1, h.2.1, h.2.2.1, fun h0 => ?_⟩
 obtain ⟨ad, e, hb, hc⟩ := h.2.2.2 h0
 exact ⟨ad, e, by have := ha.1; omega, fun j u hu => (World.cell?_of_block (by rw [block_of_add]; exact ha.2 _ (hn ad e) hb)).trans (hc j u hu)⟩
def NewSt (b : Bs) (rs : List Rc) (w w' : World) (v : Value) : Prop :=
 ∃ cl CA cc UA uc RA rc, v = .agg (stA b.nm b.key CA (List.length cl) cc UA b.us.length uc RA rs.length rc) ∧ (∀ ad, RA = some ad → w.heap.size ≤ ad.block) ∧ ∀ w2, Agr w.heap.size w' w2 → StH b rs w2 cl CA cc UA uc RA rc
theorem base_h2 (w w2 : World) (ha : Agr w.heap.size (baseW w) w2) : StH bs0 [] w2 (baseCl w.heap.size) (some ⟨w.heap.size + 1 + 1 + 1 + 1 + 1, 0, none⟩) 3 (some ⟨w.heap.size + 1 + 1 + 1 + 1 + 1 + 1, 0, none⟩) 2 none 0 := by
 have hF := base_fr w
 have hB : ∀ (i : Nat) (x : Bx), ([(w.heap.size, 31, baseSt w.heap.size), (w.heap.size + 1, 33, sr0.arr), (w.heap.size + 1 + 1, 9, (strVs [uC1, uC1b]).toArray), (w.heap.size + 1 + 1 + 1, 9, (strVs [uC2]).toArray),
  (w.heap.size + 1 + 1 + 1 + 1, 9, (strVs [uPub]).toArray), (w.heap.size + 1 + 1 + 1 + 1 + 1, 67, (cCells (baseCl w.heap.size)).toArray), (w.heap.size + 1 + 1 + 1 + 1 + 1 + 1, 65, (uCells baseUs).toArray)] : List Bx)[i]? = some x → Blk w2 x.1 x.2.1 x.2.2 := fun i x hx => by
  have h := hF.blk i x hx
  exact (ha.2 _ h.1 h.2.lt).trans h.2
 refine ⟨rfl, ⟨Nat.le_refl _, K9.blk_reads (hB 5 _ rfl) rfl, fun x hx => ?_⟩, ⟨Nat.le_refl _, K9.blk_reads (hB 6 _ rfl) rfl⟩, ⟨Nat.le_refl _, Nat.zero_le _, Reads.none_⟩⟩
 simp only [baseCl, List.mem_cons, List.not_mem_nil, or_false] at hx
 rcases hx with rfl | rfl | rfl
 ·
  exact ⟨Nat.le_refl _, K9.blk_reads (hB 2 _ rfl) rfl⟩
 ·
  exact ⟨Nat.le_refl _, K9.blk_reads (hB 3 _ rfl) rfl⟩
 ·
  exact ⟨Nat.le_refl _, K9.blk_reads (hB 4 _ rfl) rfl⟩
theorem base_new (w : World) :
  Calls Tryz.prog 64 #[] w fun e w' => ∃ v, e = .returned (.tuple #[v, .agg sr0.arr]) ∧ NewSt bs0 [] w w' v ∧ Below w.heap.size w w' := by
 go_enter Tryz.func64, Tryz.ntmps64
 go_wp2_with fail
 have hF := base_fr w
 refine bodyPost_ret (w := baseW w) (results2 Tryz.results64 (res_cell 0 hF rfl rfl rfl) (res_cell 1 hF rfl rfl rfl)) rfl ⟨_, rfl, ?_, hF.below⟩
 exact ⟨baseCl w.heap.size, _, _, _, _, none, 0, rfl, fun ad e => (by cases e), base_h2 w⟩
theorem StH.with {b : Bs} {rs rs' : List Rc} {w : World} {cl : List Cl} {CA : Option Addr} {cc : Nat} {UA : Option Addr} {uc : Nat} {RA RA' : Option Addr} {rc rc' : Nat} (h : StH b rs w cl CA cc UA uc RA rc) (hr : RecsAt w RA' rc' rs') : StH b rs' w cl CA cc UA uc RA' rc' := ⟨h.pl, h.cls, h.us, hr⟩
theorem right_ok (n : Int) : WtOk (rightW n) := by
 have hk := key_size n
 have hc : (chalN n).length ≤ 131460 := K9.mark_le _
 refine ⟨by show (4 : Nat) ≤ _; omega, ?_, by show (6 : Nat) ≤ _; omega, ?_, by show (1 : Nat) ≤ _; omega, ?_, by show (4 : Nat) ≤ _; omega⟩
 ·
  show (redI n).size ≤ _
  have := S16.getD_size (L := redL) (n := 14) (by decide +kernel) ((n - 1) % 3).toNat
  have e : redI n = redL.getD ((n - 1) % 3).toNat ByteArray.empty := rfl
  rw [e]; omega
 ·
  show ((⟨#[115]⟩ : ByteArray) ++ ⟨(K9.keyL n).toArray⟩).size ≤ _
  rw [ByteArray.size_append, size_mks (K9.keyL n)]
  show 1 + _ ≤ _
  omega
 ·
  show (⟨(chalN n).toArray⟩ : ByteArray).size ≤ _
  rw [size_mks]; omega
theorem base_okc : ∀ c ∈ bs0.cls, ClOk c := by
 intro c hc
 simp only [bs0, List.mem_cons, List.not_mem_nil, or_false] at hc
 rcases hc with rfl | rfl | rfl <;> exact ⟨by decide, by decide⟩
theorem cl_of_in {b : Bs} {rs : List Rc} {w : World} {cl : List Cl} {CA : Option Addr} {cc : Nat} {UA : Option Addr} {uc : Nat} {RA : Option Addr} {rc : Nat} (h : StH b rs w cl CA cc UA uc RA rc) {k : Nat} {c : ClP} (hk : b.cls[k]? = some c) : ∃ f, cl[k]? = some f ∧ clP f = c := by
 rw [← h.pl, List.getElem?_map] at hk
 cases hf : cl[k]? with
 | none => rw [hf] at hk; cases hk
 | some f => rw [hf] at hk; exact ⟨f, rfl, by simpa using hk⟩
theorem cls_in (n : Int) (h : In3 n) : bs0.cls[(n - 1).toNat]? = some (clN n) := by rcases h with rfl | rfl | rfl <;> rfl
theorem us_in (u : Int) (h : In2 u) : bs0.us[(u - 1).toNat]? = some (userN u) := by rcases h with rfl | rfl <;> rfl
set_option maxHeartbeats 16000000 in
theorem coded_walk (n u : Int) (hn3 : In3 n) (hu2 : In2 u) (w : World) :
  Calls Tryz.prog 30 #[.int .i64 n, .int .i64 u] w fun e w' => ∃ v, e = .returned (.tuple #[v, .agg (⟨104, 1, 0⟩ : Sr).arr, .int .i64 103]) ∧ NewSt bs0 [recS u, recC n u] w w' v ∧ Below w.heap.size w w' := by
 have hF := Fr.nil w
 have hnr : 1 ≤ n ∧ n ≤ 3 := by rcases hn3 with rfl | rfl | rfl <;> decide
 have hur : 1 ≤ u ∧ u ≤ 2 := by rcases hu2 with rfl | rfl <;> decide
 have ck := Lib.hid (fun W => right_walk n W (by omega))
 go_enter Tryz.func30, Tryz.ntmps30
 go_wp2_with (first
  | go_skip
  | (refine aA rfl rfl hF ?_; clear hF; intro gg ww hF; simp only [nf] at hF)
  | (refine aB rfl rfl hF rfl ?_; clear hF; intro gg ww hF; simp only [nf] at hF)
  | (refine iL (t := 3) hF rfl rfl fun ho hx hb => ?_; refine aC (v := .int _ _) ho hb hx hF rfl rfl ?_; clear ho hx hb)
  | (refine iL hF rfl rfl fun ho hx hb => ?_; (first | refine aL ho hb hx hF rfl rfl ?_ | refine aC (v := .slice _ _ _) ho hb hx hF rfl rfl ?_ | refine aC (v := .string _) ho hb hx hF rfl rfl ?_ | refine aC (v := .bool _) ho hb hx hF rfl rfl ?_); clear ho hx hb)
  | (refine iS hF rfl rfl fun ho hx hb => ?_; (first | refine aS ho hb hx hF rfl rfl rfl rfl ?_ | refine aT (v := .int _ _) ho hb hx hF rfl rfl rfl rfl ?_ | refine aT (v := .slice _ _ _) ho hb hx hF rfl rfl rfl rfl ?_ | refine aT (v := .bool _) ho hb hx hF rfl rfl rfl rfl ?_); clear ho hx hb hF; intro ww hF; simp only [nf] at hF)
  )
 refine (base_new _).mono ?_
 rintro _ w1 ⟨v, rfl, ⟨cl, CA, cc, UA, uc, RA, rc, rfl, hra, hN⟩, hbn⟩
 have hlo := hF.below.size
 replace hF := (hF.call hbn).grow (kp_agr fun x hx => (hF.mem hx).2)
 have hN' := Lib.hid (fun W (h : True ∧ Agr _ w1 W) => hN W h.2)
 clear hbn hN
 obtain ⟨ns, hns⟩ : ∃ ns : Nat, (n - 1).toNat = ns := ⟨_, rfl⟩
 obtain ⟨us, hus⟩ : ∃ us : Nat, (u - 1).toNat = us := ⟨_, rfl⟩
 obtain ⟨f, hfk, hfc⟩ := cl_of_in (hN'.out w1 hF.data) (cls_in n hn3)
 have huk := us_in u hu2
 rw [hns] at hfk
 rw [hus] at huk
 have hns2 : n - 1 = (ns : Int) := by omega
 have hus2 : u - 1 = (us : Int) := by omega
 have HC3 := Lib.hid (show cl.length = 3 from (hN'.out w1 hF.data).len)
 have hnl : ns < cl.length := by have := HC3.out; omega
 have hcc := (hN'.out w1 hF.data).cls.1
 have huc := (hN'.out w1 hF.data).us.1
 obtain ⟨ad, rfl⟩ : ∃ ad, CA = some ad := by obtain ⟨ad, h, _⟩ := (hN'.out w1 hF.data).cls.2.1.2 (by omega); exact ⟨ad, h⟩
 obtain ⟨ud, rfl⟩ : ∃ ud, UA = some ud := by obtain ⟨ud, h, _⟩ := (hN'.out w1 hF.data).us.2.2 (by decide); exact ⟨ud, h⟩
 have hwn : IntKind.i64.wrap (n - 1) = (ns : Int) := by rw [IntKind.wrap_i64]; omega
 have hwn2 : IntKind.i64.wrap (ns : Int) = (ns : Int) := by rw [IntKind.wrap_i64]; omega
 have hwu : IntKind.i64.wrap (u - 1) = (us : Int) := by rw [IntKind.wrap_i64]; omega
 have hwu2 : IntKind.i64.wrap (us : Int) = (us : Int) := by rw [IntKind.wrap_i64]; omega
 have hnl2 : (ns : Int) < (cl.length : Int) := by omega
 have hul2 : (us : Int) < ((bs0.us.length : Nat) : Int) := by show (us : Int) < 2; omega
 have cp := fun W (hW : StH bs0 [] W cl (some ad) cc (some ud) uc RA rc) => rpush_walk bs0 [] sr0 n (rightW n) cl (some ad) cc (some ud) uc RA rc W hW (by decide) (by decide) (by decide) (right_ok n) base_okc (by omega)
 simp only [ev_push n hn3, List.length_nil] at cp
 replace cp := Lib.hid cp
 have ce := fun A c W (hW : StH bs0 [rec1 n] W cl (some ad) cc (some ud) uc A c) => renter_walk bs0 [rec1 n] ⟨101, 1, 0⟩ 0 ⟨(idN n).toArray⟩ 100 cl (some ad) cc (some ud) uc A c W hW (by simp) (by decide) (by decide) (by decide)
 simp only [show (⟨(idN n).toArray⟩ : ByteArray).data.toList = idN n by simp, ev_enter n hn3, List.length_nil, List.length_cons, Nat.reduceAdd] at ce
 replace ce := Lib.hid ce
 have cg := fun A c W (hW : StH bs0 [recS 0, recD n] W cl (some ad) cc (some ud) uc A c) => rlogin_walk bs0 [recS 0, recD n] 0 101 102 ⟨(userN u).nm.toArray⟩ ⟨(K9.keyL (userN u).pass).toArray⟩ cl (some ad) cc (some ud) uc A c W hW (by decide)
 simp only [show (⟨(userN u).nm.toArray⟩ : ByteArray).data.toList = (userN u).nm by simp, show (⟨(K9.keyL (userN u).pass).toArray⟩ : ByteArray).data.toList = K9.keyL (userN u).pass by simp, ev_login n u hn3 hu2, List.length_nil, List.length_cons, Nat.reduceAdd] at cg
 replace cg := Lib.hid cg
 have ca := fun A c W (hW : RecsAt W A c [recS u, recD n]) => ragree_walk bs0 [recS u, recD n] ⟨103, 1, 0⟩ 101 102 true cl (some ad) cc (some ud) uc A c W hW (by simp) (by decide) (by decide)
 simp only [ev_agree n u hn3 hu2, List.length_nil, List.length_cons, Nat.reduceAdd] at ca
 replace ca := Lib.hid ca
 have cky := Lib.hid (fun W => K9.key_walk (userN u).pass W)
 go_wp2_with (first
  | go_skip
  | (refine aA rfl rfl hF ?_; clear hF; intro gg ww hF; simp only [nf] at hF)
  | (refine aB rfl rfl hF rfl ?_; clear hF; intro gg ww hF; simp only [nf] at hF)
  | (refine iL (t := 3) hF rfl rfl fun ho hx hb => ?_; refine aC (v := .int _ _) ho hb hx hF rfl rfl ?_; clear ho hx hb)
  | (refine iL hF rfl rfl fun ho hx hb => ?_; (first | refine aL ho hb hx hF rfl rfl ?_ | refine aC (v := .slice _ _ _) ho hb hx hF rfl rfl ?_ | refine aC (v := .string _) ho hb hx hF rfl rfl ?_ | refine aC (v := .bool _) ho hb hx hF rfl rfl ?_); clear ho hx hb)
  | (refine iS hF rfl rfl fun ho hx hb => ?_; (first | refine aS ho hb hx hF rfl rfl rfl rfl ?_ | refine aT (v := .int _ _) ho hb hx hF rfl rfl rfl rfl ?_ | refine aT (v := .slice _ _ _) ho hb hx hF rfl rfl rfl rfl ?_ | refine aT (v := .bool _) ho hb hx hF rfl rfl rfl rfl ?_); clear ho hx hb hF; intro ww hF; simp only [nf] at hF)
  )
 refine rgw [11] _ hF (List.Sublist.refl _) fun hF => ?_
 refine tkb 0 2 [11] rfl rfl rfl rfl rfl ?_
 try simp only [nrm, Act.put]
 refine tkb 1 3 [11] rfl rfl rfl rfl rfl ?_
 try simp only [nrm, Act.put]
 refine tkf 2 rfl ?_
 try simp only [nrm, Act.put]
 refine tkf 3 rfl ?_
 try simp only [nrm, Act.put]
 refine rdw 4 rfl fun K hK => ?_
 go_simp
 go_at_call 25
 with_reducible refine (ck.out _).mono ?_
 rintro _ ww ⟨rfl, hbn⟩
 replace hF := hF.call hbn
 refine hK.out _ _ (by (first | exact HoldA.past rfl | exact HoldA.of (by assumption) _ | exact HoldA.of (Fr.sub hF (by repeat (first | exact List.Sublist.slnil | apply List.Sublist.cons_cons | apply List.Sublist.cons))) _)) (fun _ => ?_)
 clear hK K; try clear hbn
 try simp only [nrm, Act.put]
 refine rdw 5 rfl fun K hK => ?_
 go_simp
 go_at_call 65
 with_reducible refine (cp.out _ (hN'.out _ hF.data)).mono ?_
 rintro _ ww ⟨v2, rfl, A1, c1, rfl, hr1, hn1, hbn⟩
 have g1 := hF.below.size
 have hF0 := hF.call hbn
 replace hF := hF.rows hbn hr1 hn1 (fun W h => (hN'.out W h).rs)
 refine hK.out _ _ (by (first | exact HoldA.past rfl | exact HoldA.of (by assumption) _ | exact HoldA.of (Fr.sub hF (by repeat (first | exact List.Sublist.slnil | apply List.Sublist.cons_cons | apply List.Sublist.cons))) _)) (fun _ => ?_)
 clear hK K; try clear hbn
 try simp only [nrm, Act.put]
 refine tkf 6 rfl ?_
 try simp only [nrm, Act.put]
 refine tkf 7 rfl ?_
 try simp only [nrm, Act.put]
 refine tkf 8 rfl ?_
 try simp only [nrm, Act.put]
 refine tkf 9 rfl ?_
 try simp only [nrm, Act.put]
 refine tkf 10 rfl ?_
 try simp only [nrm, Act.put]
 refine stw 11 2 hF rfl rfl rfl rfl rfl rfl rfl rfl ?_
 clear hF; intro ww hF; simp only [nf] at hF
 try simp only [nrm, Act.put]
 refine stw 12 3 hF rfl rfl rfl rfl rfl rfl rfl rfl ?_
 clear hF; intro ww hF; simp only [nf] at hF
 try simp only [nrm, Act.put]
 refine tkf 13 rfl ?_
 try simp only [nrm, Act.put]
 refine tkf 14 rfl ?_
 try simp only [nrm, Act.put]
 refine dnw ?_
 clear hF0
 go_wp2_with (first
  | go_skip
  | (refine aA rfl rfl hF ?_; clear hF; intro gg ww hF; simp only [nf] at hF)
  | (refine aB rfl rfl hF rfl ?_; clear hF; intro gg ww hF; simp only [nf] at hF)
  | (refine iL (t := 3) hF rfl rfl fun ho hx hb => ?_; refine aC (v := .int _ _) ho hb hx hF rfl rfl ?_; clear ho hx hb)
  | (refine iL hF rfl rfl fun ho hx hb => ?_; (first | refine aL ho hb hx hF rfl rfl ?_ | refine aC (v := .slice _ _ _) ho hb hx hF rfl rfl ?_ | refine aC (v := .string _) ho hb hx hF rfl rfl ?_ | refine aC (v := .bool _) ho hb hx hF rfl rfl ?_); clear ho hx hb)
  | (refine iS hF rfl rfl fun ho hx hb => ?_; (first | refine aS ho hb hx hF rfl rfl rfl rfl ?_ | refine aT (v := .int _ _) ho hb hx hF rfl rfl rfl rfl ?_ | refine aT (v := .slice _ _ _) ho hb hx hF rfl rfl rfl rfl ?_ | refine aT (v := .bool _) ho hb hx hF rfl rfl rfl rfl ?_); clear ho hx hb hF; intro ww hF; simp only [nf] at hF)
  )
 have hrow := Lib.hid (fun W (h : True ∧ Agr _ w1 W) => C17.cl_id (hN'.out W h).cls.2.1 hfk)
 refine rgw [17] _ hF (List.Sublist.refl _) fun hF => ?_
 refine tkb 0 2 [17] rfl rfl rfl rfl rfl ?_
 try simp only [nrm, Act.put]
 refine tkb 1 3 [17] rfl rfl rfl rfl rfl ?_
 try simp only [nrm, Act.put]
 refine tkf 2 rfl ?_
 try simp only [nrm, Act.put]
 refine tkc 3 2 [17] (v := .slice _ _ _) rfl rfl rfl rfl rfl ?_
 try simp only [nrm, Act.put]
 refine tkf 4 rfl ?_
 try simp only [nrm, Act.put]
 refine tkf 5 rfl ?_
 try simp only [nrm, Act.put]
 refine tkf 6 rfl ?_
 try simp only [nrm, Act.put]
 refine tkf 7 rfl ?_
 try simp only [nrm, Act.put]
 refine tkw 8 [17] rfl ?_ (v := .string ⟨(idN n).toArray⟩) (hv := fun W hW => exec_at (t' := 9) rfl rfl (by rw [idN, ← hfc]; exact hrow.out W hW.data.1))
 try simp only [nrm, Act.put]
 refine tkf 9 rfl ?_
 try simp only [nrm, Act.put]
 refine rdw 10 rfl fun K hK => ?_
 go_simp
 go_at_call 66
 with_reducible refine (ce.out _ _ _ ((hN'.out _ hF.data.1).with hF.data.2)).mono ?_
 rintro _ ww ⟨v3, rfl, A2, c2, rfl, hr2, hn2, hbn⟩
 have g2 := hF.below.size
 have hF0 := hF.call hbn
 replace hF := hF.rows hbn hr2 hn2 (fun W h => h.2)
 refine hK.out _ _ (by (first | exact HoldA.past rfl | exact HoldA.of (by assumption) _ | exact HoldA.of (Fr.sub hF (by repeat (first | exact List.Sublist.slnil | apply List.Sublist.cons_cons | apply List.Sublist.cons))) _)) (fun _ => ?_)
 clear hK K; try clear hbn
 try simp only [nrm, Act.put]
 refine tkf 11 rfl ?_
 try simp only [nrm, Act.put]
 refine tkf 12 rfl ?_
 try simp only [nrm, Act.put]
 refine tkf 13 rfl ?_
 try simp only [nrm, Act.put]
 refine tkf 14 rfl ?_
 try simp only [nrm, Act.put]
 refine tkf 15 rfl ?_
 try simp only [nrm, Act.put]
 refine tkf 16 rfl ?_
 try simp only [nrm, Act.put]
 refine stw 17 2 hF rfl rfl rfl rfl rfl rfl rfl rfl ?_
 clear hF; intro ww hF; simp only [nf] at hF
 try simp only [nrm, Act.put]
 refine stw 18 3 hF rfl rfl rfl rfl rfl rfl rfl rfl ?_
 clear hF; intro ww hF; simp only [nf] at hF
 try simp only [nrm, Act.put]
 refine tkf 19 rfl ?_
 try simp only [nrm, Act.put]
 refine tkf 20 rfl ?_
 try simp only [nrm, Act.put]
 refine tkf 21 rfl ?_
 try simp only [nrm, Act.put]
 refine dnw ?_
 clear hF0 hrow
 go_wp2_with (first
  | go_skip
  | (refine aA rfl rfl hF ?_; clear hF; intro gg ww hF; simp only [nf] at hF)
  | (refine aB rfl rfl hF rfl ?_; clear hF; intro gg ww hF; simp only [nf] at hF)
  | (refine iL (t := 3) hF rfl rfl fun ho hx hb => ?_; refine aC (v := .int _ _) ho hb hx hF rfl rfl ?_; clear ho hx hb)
  | (refine iL hF rfl rfl fun ho hx hb => ?_; (first | refine aL ho hb hx hF rfl rfl ?_ | refine aC (v := .slice _ _ _) ho hb hx hF rfl rfl ?_ | refine aC (v := .string _) ho hb hx hF rfl rfl ?_ | refine aC (v := .bool _) ho hb hx hF rfl rfl ?_); clear ho hx hb)
  | (refine iS hF rfl rfl fun ho hx hb => ?_; (first | refine aS ho hb hx hF rfl rfl rfl rfl ?_ | refine aT (v := .int _ _) ho hb hx hF rfl rfl rfl rfl ?_ | refine aT (v := .slice _ _ _) ho hb hx hF rfl rfl rfl rfl ?_ | refine aT (v := .bool _) ho hb hx hF rfl rfl rfl rfl ?_); clear ho hx hb hF; intro ww hF; simp only [nf] at hF)
  )
 have hrow := Lib.hid (fun W (h : True ∧ Agr _ w1 W) => us_two (hN'.out W h).us.2 huk)
 refine rgw [24] _ hF (List.Sublist.refl _) fun hF => ?_
 refine tkb 0 2 [24] rfl rfl rfl rfl rfl ?_
 try simp only [nrm, Act.put]
 refine tkf 1 rfl ?_
 try simp only [nrm, Act.put]
 refine tkc 2 3 [24] (v := .int _ _) rfl rfl rfl rfl rfl ?_
 try simp only [nrm, Act.put]
 refine tkf 3 rfl ?_
 try simp only [nrm, Act.put]
 refine tkf 4 rfl ?_
 try simp only [nrm, Act.put]
 refine tkf 5 rfl ?_
 try simp only [nrm, Act.put]
 refine tkc 6 2 [24] (v := .slice _ _ _) rfl rfl rfl rfl rfl ?_
 try simp only [nrm, Act.put]
 refine tkf 7 rfl ?_
 try simp only [nrm, Act.put]
 refine tkf 8 rfl ?_
 try simp only [nrm, Act.put]
 refine tkf 9 rfl ?_
 try simp only [nrm, Act.put]
 refine tkf 10 rfl ?_
 try simp only [nrm, Act.put]
 refine tkw 11 [24] rfl ?_ (v := .string ⟨(userN u).nm.toArray⟩) (hv := fun W hW => exec_at (t' := 9) rfl rfl (hrow.out W hW.data.1.1).1)
 try simp only [nrm, Act.put]
 refine tkf 12 rfl ?_
 try simp only [nrm, Act.put]
 refine tkc 13 2 [24] (v := .slice _ _ _) rfl rfl rfl rfl rfl ?_
 try simp only [nrm, Act.put]
 refine tkf 14 rfl ?_
 try simp only [nrm, Act.put]
 refine tkf 15 rfl ?_
 try simp only [nrm, Act.put]
 refine tkf 16 rfl ?_
 try simp only [nrm, Act.put]
 refine tkf 17 rfl ?_
 try simp only [nrm, Act.put]
 refine tkw 18 [24] rfl ?_ (v := .int .i64 (userN u).pass) (hv := fun W hW => exec_at (t' := 3) rfl rfl (hrow.out W hW.data.1.1).2)
 try simp only [nrm, Act.put]
 refine rdw 19 rfl fun K hK => ?_
 go_simp
 go_at_call 60
 with_reducible refine (cky.out _).mono ?_
 rintro _ ww ⟨rfl, hbn⟩
 replace hF := hF.call hbn
 refine hK.out _ _ (by (first | exact HoldA.past rfl | exact HoldA.of (by assumption) _ | exact HoldA.of (Fr.sub hF (by repeat (first | exact List.Sublist.slnil | apply List.Sublist.cons_cons | apply List.Sublist.cons))) _)) (fun _ => ?_)
 clear hK K; try clear hbn
 try simp only [nrm, Act.put]
 refine rdw 20 rfl fun K hK => ?_
 go_simp
 go_at_call 67
 with_reducible refine (cg.out _ _ _ ((hN'.out _ hF.data.1.1).with hF.data.2)).mono ?_
 rintro _ ww ⟨v4, rfl, A3, c3, rfl, hr3, hn3', hbn⟩
 have g3 := hF.below.size
 have hF0 := hF.call hbn
 replace hF := hF.rows hbn hr3 hn3' (fun W h => h.2)
 refine hK.out _ _ (by (first | exact HoldA.past rfl | exact HoldA.of (by assumption) _ | exact HoldA.of (Fr.sub hF (by repeat (first | exact List.Sublist.slnil | apply List.Sublist.cons_cons | apply List.Sublist.cons))) _)) (fun _ => ?_)
 clear hK K; try clear hbn
 try simp only [nrm, Act.put]
 refine tkf 21 rfl ?_
 try simp only [nrm, Act.put]
 refine tkf 22 rfl ?_
 try simp only [nrm, Act.put]
 refine tkf 23 rfl ?_
 try simp only [nrm, Act.put]
 refine stw 24 2 hF rfl rfl rfl rfl rfl rfl rfl rfl ?_
 clear hF; intro ww hF; simp only [nf] at hF
 try simp only [nrm, Act.put]
 refine dnw ?_
 clear hF0 hrow
 go_wp2_with (first
  | go_skip
  | (refine aA rfl rfl hF ?_; clear hF; intro gg ww hF; simp only [nf] at hF)
  | (refine aB rfl rfl hF rfl ?_; clear hF; intro gg ww hF; simp only [nf] at hF)
  | (refine iL (t := 3) hF rfl rfl fun ho hx hb => ?_; refine aC (v := .int _ _) ho hb hx hF rfl rfl ?_; clear ho hx hb)
  | (refine iL hF rfl rfl fun ho hx hb => ?_; (first | refine aL ho hb hx hF rfl rfl ?_ | refine aC (v := .slice _ _ _) ho hb hx hF rfl rfl ?_ | refine aC (v := .string _) ho hb hx hF rfl rfl ?_ | refine aC (v := .bool _) ho hb hx hF rfl rfl ?_); clear ho hx hb)
  | (refine iS hF rfl rfl fun ho hx hb => ?_; (first | refine aS ho hb hx hF rfl rfl rfl rfl ?_ | refine aT (v := .int _ _) ho hb hx hF rfl rfl rfl rfl ?_ | refine aT (v := .slice _ _ _) ho hb hx hF rfl rfl rfl rfl ?_ | refine aT (v := .bool _) ho hb hx hF rfl rfl rfl rfl ?_); clear ho hx hb hF; intro ww hF; simp only [nf] at hF)
  )
 refine (ca.out _ _ _ hF.data.2).mono ?_
 rintro _ w5 ⟨v5, rfl, A4, c4, rfl, hr4, hn4, hbn⟩
 have g4 := hF.below.size
 replace hF := hF.rows hbn hr4 hn4 (fun W h => h.2)
 clear hbn hr4
 go_wp2_with (first
  | go_skip
  | (refine aA rfl rfl hF ?_; clear hF; intro gg ww hF; simp only [nf] at hF)
  | (refine aB rfl rfl hF rfl ?_; clear hF; intro gg ww hF; simp only [nf] at hF)
  | (refine iL (t := 3) hF rfl rfl fun ho hx hb => ?_; refine aC (v := .int _ _) ho hb hx hF rfl rfl ?_; clear ho hx hb)
  | (refine iL hF rfl rfl fun ho hx hb => ?_; (first | refine aL ho hb hx hF rfl rfl ?_ | refine aC (v := .slice _ _ _) ho hb hx hF rfl rfl ?_ | refine aC (v := .string _) ho hb hx hF rfl rfl ?_ | refine aC (v := .bool _) ho hb hx hF rfl rfl ?_); clear ho hx hb)
  | (refine iS hF rfl rfl fun ho hx hb => ?_; (first | refine aS ho hb hx hF rfl rfl rfl rfl ?_ | refine aT (v := .int _ _) ho hb hx hF rfl rfl rfl rfl ?_ | refine aT (v := .slice _ _ _) ho hb hx hF rfl rfl rfl rfl ?_ | refine aT (v := .bool _) ho hb hx hF rfl rfl rfl rfl ?_); clear ho hx hb hF; intro ww hF; simp only [nf] at hF)
  )
 refine rgw [] [_, _] hF (.cons _ (.cons _ (.cons_cons _ (.cons_cons _ (.cons _ .slnil))))) fun hF => ?_
 refine tkb 0 0 [] rfl rfl rfl rfl rfl ?_
 try simp only [nrm, Act.put]
 refine tkb 1 1 [] rfl rfl rfl rfl rfl ?_
 try simp only [nrm, Act.put]
 refine tkf 2 rfl ?_
 try simp only [nrm, Act.put]
 refine stw 3 0 hF rfl rfl rfl rfl rfl rfl rfl rfl ?_
 clear hF; intro ww hF; simp only [nf] at hF
 try simp only [nrm, Act.put]
 refine stw 4 1 hF rfl rfl rfl rfl rfl rfl rfl rfl ?_
 clear hF; intro ww hF; simp only [nf] at hF
 try simp only [nrm, Act.put]
 refine tkf 5 rfl ?_
 try simp only [nrm, Act.put]
 refine dnw ?_
 go_wp2_with (first
  | go_skip
  | (refine aA rfl rfl hF ?_; clear hF; intro gg ww hF; simp only [nf] at hF)
  | (refine aB rfl rfl hF rfl ?_; clear hF; intro gg ww hF; simp only [nf] at hF)
  | (refine iL (t := 3) hF rfl rfl fun ho hx hb => ?_; refine aC (v := .int _ _) ho hb hx hF rfl rfl ?_; clear ho hx hb)
  | (refine iL hF rfl rfl fun ho hx hb => ?_; (first | refine aL ho hb hx hF rfl rfl ?_ | refine aC (v := .slice _ _ _) ho hb hx hF rfl rfl ?_ | refine aC (v := .string _) ho hb hx hF rfl rfl ?_ | refine aC (v := .bool _) ho hb hx hF rfl rfl ?_); clear ho hx hb)
  | (refine iS hF rfl rfl fun ho hx hb => ?_; (first | refine aS ho hb hx hF rfl rfl rfl rfl ?_ | refine aT (v := .int _ _) ho hb hx hF rfl rfl rfl rfl ?_ | refine aT (v := .slice _ _ _) ho hb hx hF rfl rfl rfl rfl ?_ | refine aT (v := .bool _) ho hb hx hF rfl rfl rfl rfl ?_); clear ho hx hb hF; intro ww hF; simp only [nf] at hF)
  )
 refine bodyPost_ret (results3 Tryz.results30 (res_cell 0 hF rfl rfl rfl) (res_cell 1 hF rfl rfl rfl) (.tmp _)) rfl ⟨_, rfl, ?_, hF.below⟩
 have hnr : NewRow w RA A4 rc c4 [] [recS u, recC n u] := NewRow.trans (NewRow.trans (NewRow.trans (NewRow.up g1 hn1) g2 hn2) g3 hn3') g4 hn4
 have hfr : ∀ ad, A4 = some ad → w.heap.size ≤ ad.block := fun ad e => by
  rcases hnr with ⟨e1, _⟩ | h
  ·
   have := hra ad (e1 ▸ e); omega
  ·
   exact h ad e
 exact ⟨cl, _, _, _, _, A4, c4, rfl, hfr, fun w2 h2 => (hN'.out w2 ⟨trivial, hF.data.1.1.1.1.2.trans (h2.up hlo)⟩).with (recs_agr hF.data.2 hfr h2)⟩
end Go.Proofs.YtnhjgocdepbajaaGreat
