/- json.alone joined; json.may and json.May. Condition: small values. -/
import Derived.Test.YtieppmppdmcleaaGreatDoorJl
set_option linter.unusedVariables false
set_option linter.unusedSimpArgs false
set_option maxRecDepth 20000
set_option maxHeartbeats 4000000
namespace Go.Proofs.YtieppmppdmcleaaGreatDoor
open Go.RowKit
theorem alone_walk (v : Jv) (cs : List Value) (w : World) (hsm : smJ v) (hv : JvV w 0 v cs) : CallsB 87 (.agg cs.toArray) (aloneB validL v) w := by
 obtain ⟨k, b, n, s, names, kids⟩ := v
 have hsm2 := hsm
 rw [smJ] at hsm2
 obtain ⟨_, _, hs3, _, _, _, _⟩ := hsm2
 have hv2 := hv
 rw [JvV] at hv2
 obtain ⟨NA, nc, A, c, vs, rfl, _⟩ := hv2
 have cval : Hid (∀ W, CallsB 114 (.string ⟨s.toArray⟩) (validL s) W) := fun W => valid_walk _ s (by simp) W (by rw [size_mks]; omega)
 have cnam : Hid (∀ W, Below w.heap.size w W → CallsB 115 (.agg (cells6 k b n s NA names.length nc A kids.length c).toArray) (namesB names kids.length) W) := fun W hW => named_walk _ _ W hsm (hv.below hW)
 simp only [cells6, strV] at cnam ⊢
 by_cases h : k < 1
 ·
  exact alone_low k h b n s _ names kids _ _ rfl rfl rfl NA nc A c w cval cnam
 by_cases h6 : 6 < k
 ·
  exact alone_high k h6 b n s _ names kids _ _ rfl rfl rfl NA nc A c w cval cnam
 have : k = 1 ∨ k = 2 ∨ k = 3 ∨ k = 4 ∨ k = 5 ∨ k = 6 := by omega
 rcases this with rfl | rfl | rfl | rfl | rfl | rfl
 ·
  exact alone_1 b n s _ names kids _ _ rfl rfl rfl NA nc A c w cval cnam
 ·
  exact alone_2 b n s _ names kids _ _ rfl rfl rfl NA nc A c w cval cnam
 ·
  exact alone_3 b n s _ names kids _ _ rfl rfl rfl NA nc A c w cval cnam
 ·
  exact alone_4 b n s _ names kids _ _ rfl rfl rfl NA nc A c w cval cnam
 ·
  exact alone_5 b n s _ names kids _ _ rfl rfl rfl NA nc A c w cval cnam
 ·
  exact alone_6 b n s _ names kids _ _ rfl rfl rfl NA nc A c w cval cnam
def TellsJ (F : FuncId) (caps : Array Value) (w : World) (kids : List Jv) (p : Jv → Bool) : Prop :=
 (∀ (args : Array Value) (W : World), (callFunc F args).run Tryz.prog W = .ok (.enter F args) W) ∧ ∀ k ∈ kids, ∀ (cs : List Value) (W : World), Below w.heap.size w W → JvV W 0 k cs → Calls Tryz.prog F (#[.agg cs.toArray] ++ caps) W fun e w' => e = .returned (.bool (p k)) ∧ Below W.heap.size W w'
def idxJ (p : Jv → Bool) (fs : List Jv) : Int := match fs.findIdx? p with
 | some i => i
 | none => -1
theorem idxJ_some {p : Jv → Bool} {fs : List Jv} {k : Nat} {r : Jv} (h : ∀ j, j < k → ∀ r, fs[j]? = some r → p r = false) (hk : fs[k]? = some r) (hp : p r = true) : idxJ p fs = (k : Int) := by
 obtain ⟨hlt, e⟩ := List.getElem?_eq_some_iff.1 hk
 have : fs.findIdx? p = some k := by
  rw [List.findIdx?_eq_some_iff_getElem]
  refine ⟨hlt, by rw [e]; exact hp, fun j hj => ?_⟩
  rw [h j hj _ (List.getElem?_eq_getElem (by omega))]
  simp
 rw [idxJ, this]
theorem idxJ_none {p : Jv → Bool} {fs : List Jv} (h : ∀ j, j < fs.length → ∀ r, fs[j]? = some r → p r = false) : idxJ p fs = -1 := by
 have : fs.findIdx? p = none := by
  rw [List.findIdx?_eq_none_iff]
  intro x hx
  obtain ⟨j, hj, e⟩ := List.getElem_of_mem hx
  exact h j hj x (by rw [List.getElem?_eq_getElem hj, e])
 rw [idxJ, this]
theorem idxJ_any (p : Jv → Bool) (fs : List Jv) : decide (0 ≤ idxJ p fs) = fs.any p := by
 unfold idxJ
 cases h : fs.findIdx? p with
 | none =>
  rw [List.findIdx?_eq_none_iff] at h
  have : fs.any p = false := by
   rw [List.any_eq_false]
   intro x hx
   simp [h x hx]
  rw [this]
  rfl
 | some i =>
  rw [List.findIdx?_eq_some_iff_getElem] at h
  obtain ⟨hlt, hp, _⟩ := h
  have : fs.any p = true := List.any_eq_true.2 ⟨_, List.getElem_mem hlt, hp⟩
  rw [this]
  simp
theorem jindex_walk (F : FuncId) (caps : Array Value) (p : Jv → Bool) (w : World) (kids : List Jv) (hF : TellsJ F caps w kids p) (A : Option Addr) (c : Nat) (vs : List (List Value)) (hc : kids.length ≤ c ∧ c ≤ 9223372036854775807) (hA : JvsV w 0 kids vs) (hr : Reads w w.heap.size 6 A kids.length vs.flatten) :
  Calls Tryz.prog 116 #[.slice A kids.length c, .func (.func F) #[] caps] w fun e w' => e = .returned (.int .i64 (idxJ p kids)) ∧ Below w.heap.size w w' := by
 have hcf := hF.1
 go_enter Tryz.func116, Tryz.ntmps116
 go_wp2_with fail
 go_loopw [8] (fun nv wr => ∃ k : Nat, k ≤ kids.length ∧ nv = .int .i64 k ∧ Hid (∀ j, j < k → ∀ r, kids[j]? = some r → p r = false) ∧ Below w.heap.size w wr) (fun nv _ => kids.length - (intOf nv).toNat)
 case atStart => exact ⟨0, by omega, rfl, fun j hj => by omega, Below.refl _ _⟩
 case round =>
  obtain ⟨k, hk, rfl, hno, hbl⟩ := hrel
  by_cases hlt : k < kids.length
  ·
   obtain ⟨r, hrk⟩ : ∃ r, kids[k]? = some r := ⟨kids[k], List.getElem?_eq_getElem hlt⟩
   obtain ⟨ad, v, rfl, hva, hcv⟩ := jkid_at hA hr hrk
   have hadl := reads_near hr (by omega) rfl
   have hcv2 : ∀ j x, v[j]? = some x → wr.cell? ((ad.add (k * 6)).add j) = some x := fun j x hx => (hbl.cell (by rw [block_of_add, block_of_add]; exact hadl)).trans (hcv j x hx)
   have cF := Lib.hid (hF.2 r (List.mem_of_getElem? hrk) v wr hbl (hva.below hbl))
   obtain ⟨k1, b1, n1, s1, NA1, nn1, nc1, A1, m1, c1, rfl⟩ := hva.form
   have HC1 := Lib.hid hcv2
   clear hcv hcv2 hva
   go_wp2_with (refine wpList_load_at rfl 26 _ rfl (ad.add (k * 6)) rfl [.int .i64 k1, .bool b1, .int .i64 n1, .string s1, .slice NA1 nn1 nc1, .slice A1 m1 c1] _ HC1.out Tryz.underlying26 rfl jv_size ?_)
   refine cF.out.mono ?_
   rintro _ w1 ⟨rfl, hbn⟩
   have hb2 : Below w.heap.size w w1 := below_next hbl hbn
   cases hp : p r
   ·
    have HN : Hid (∀ j, j < k + 1 → ∀ r, kids[j]? = some r → p r = false) := by
     show ∀ j, j < k + 1 → _
     intro j hj r' hr'
     rcases Nat.lt_or_ge j k with h | h
     ·
      exact hno.out j h r' hr'
     ·
      rw [show j = k by omega, hrk] at hr'
      injection hr' with e
      rw [← e]; exact hp
    go_wp2_with fail
    exact ⟨⟨k + 1, by omega, by go_num, HN, hb2⟩, by simp [intOf]; omega⟩
   ·
    have hv : Hid (idxJ p kids = (k : Int)) := idxJ_some hno.out hrk hp
    go_wp2_with fail
    go_ret
    exact ⟨by rw [hv.out]; rfl, hb2⟩
  ·
   obtain rfl : k = kids.length := by omega
   have hv : Hid (idxJ p kids = -1) := idxJ_none hno.out
   go_wp2_with fail
   go_ret
   exact ⟨by rw [hv.out]; rfl, hbl⟩
theorem jcontains_walk (F : FuncId) (caps : Array Value) (p : Jv → Bool) (w : World) (kids : List Jv) (hF : TellsJ F caps w kids p) (A : Option Addr) (c : Nat) (vs : List (List Value)) (hc : kids.length ≤ c ∧ c ≤ 9223372036854775807) (hA : JvsV w 0 kids vs) (hr : Reads w w.heap.size 6 A kids.length vs.flatten) :
  Calls Tryz.prog 88 #[.slice A kids.length c, .func (.func F) #[] caps] w fun e w' => e = .returned (.bool (kids.any p)) ∧ Below w.heap.size w w' := by
 have hb := Below.refl w.heap.size w
 have ha := Lib.hid (idxJ_any p kids)
 have ci := Lib.hid (jindex_walk F caps p w kids hF A c vs hc hA hr)
 clear hr hA hF
 go_enter Tryz.func88, Tryz.ntmps88
 go_wp2_with fail
 refine (ci.out).mono ?_
 rintro _ w1 ⟨rfl, hbn⟩
 replace hb := below_next hb hbn
 clear hbn
 go_wp2_with fail
 go_ret
 exact ⟨by rw [← ha.out]; rfl, hb⟩
theorem mayJs_any (ok : List UInt8 → Bool) (d : Nat) : ∀ kids : List Jv, mayJs ok kids d = !(kids.any fun x => !mayJ ok x d)
 | [] => by rw [mayJs]; rfl
 | k :: ks => by rw [mayJs, mayJs_any ok d ks, List.any_cons]; cases mayJ ok k d <;> simp
def MayOk (v : Jv) : Prop := ∀ (cs : List Value) (deep : Nat) (w : World), smJ v → deep ≤ 8 → JvV w 0 v cs →
 Calls Tryz.prog 56 #[.agg cs.toArray, .int .i64 (deep : Int)] w fun e w' => e = .returned (.bool (mayJ validL v deep)) ∧ Below w.heap.size w w'
theorem may1_walk (k : Jv) (hk : MayOk k) (cs : List Value) (deep gd : Nat) (W : World) (hsm : smJ k) (hd : deep < 8) (hv : JvV W 0 k cs) (hc : W.cell? ⟨gd, 0, none⟩ = some (.int .i64 (deep : Int))) :
  Calls Tryz.prog 89 #[.agg cs.toArray, .pointer (some ⟨gd, 0, none⟩)] W fun e w' => e = .returned (.bool (!mayJ validL k (deep + 1))) ∧ Below W.heap.size W w' := by
 obtain ⟨k1, b1, n1, s1, NA1, nn1, nc1, A1, m1, c1, rfl⟩ := hv.form
 have hgd : gd < W.heap.size := World.block_lt_of_cell? W _ hc
 have hb1 := (Below.refl W.heap.size W).alloc (Nat.le_refl _) (.cells #[.int .i64 k1, .bool b1, .int .i64 n1, .string s1, .slice NA1 nn1 nc1, .slice A1 m1 c1] 26)
 have cp := Lib.hid (hk _ (deep + 1) _ hsm (by omega) (hv.below hb1))
 have hc2 := (hb1.cell (p := ⟨gd, 0, none⟩) hgd).trans hc
 have HK := Lib.hid (Blk.new W 26 #[.int .i64 k1, .bool b1, .int .i64 n1, .string s1, .slice NA1 nn1 nc1, .slice A1 m1 c1])
 have HB1 := Lib.hid hb1
 have hwr : ((deep + 1 : Nat) : Int) = (deep : Int) + 1 := by omega
 rw [hwr] at cp
 clear hb1 hv hwr
 go_enter Tryz.func89, Tryz.ntmps89
 go_wp2_with (refine wpList_load_at rfl 26 _ rfl ⟨W.heap.size, 0, none⟩ rfl [.int .i64 k1, .bool b1, .int .i64 n1, .string s1, .slice NA1 nn1 nc1, .slice A1 m1 c1] _ (blk_cells HK.out) Tryz.underlying26 rfl jv_size ?_)
 refine cp.out.mono ?_
 rintro _ w5 ⟨rfl, hb5⟩
 have HB5 := Lib.hid (below_next HB1.out hb5)
 clear hb5
 go_wp2_with fail
 go_ret
 exact ⟨rfl, HB5.out⟩
theorem may_node (k : Int) (b : Bool) (n : Int) (s : List UInt8) (names : List (List UInt8)) (kids : List Jv) (hok : ∀ x ∈ kids, MayOk x) : MayOk (.mk k b n s names kids) := by
 intro cs deep w hsm hd hv
 have hsm2 := hsm
 rw [smJ] at hsm2
 obtain ⟨_, _, _, _, _, _, hs7⟩ := hsm2
 have hv2 := hv
 rw [JvV] at hv2
 obtain ⟨NA, nc, A, c, vs, rfl, h1, h2, h3, _, h5, _, h7⟩ := hv2
 simp only [cells6, strV]
 have hb1 := (Below.refl w.heap.size w).alloc (Nat.le_refl _) (.cells #[.int .i64 k, .bool b, .int .i64 n, .string ⟨s.toArray⟩, .slice NA names.length nc, .slice A kids.length c] 26)
 have hb2 := hb1.alloc hb1.size (.cells #[.int .i64 (deep : Int)] 3)
 have calone := Lib.hid (alone_walk _ _ _ hsm (hv.below hb2))
 simp only [cells6, strV] at calone
 generalize hx : (⟨s.toArray⟩ : ByteArray) = y at *
 clear hx hv
 have hw1 : (w.alloc (.cells #[.int .i64 k, .bool b, .int .i64 n, .string y, .slice NA names.length nc, .slice A kids.length c] 26)).heap.size = w.heap.size + 1 := by simp
 have HB2 := Lib.hid hb2
 have HK1 := Lib.hid ((Blk.new w 26 #[.int .i64 k, .bool b, .int .i64 n, .string y, .slice NA names.length nc, .slice A kids.length c]).alloc (.cells #[.int .i64 (deep : Int)] 3))
 have hk2 := Blk.new (w.alloc (.cells #[.int .i64 k, .bool b, .int .i64 n, .string y, .slice NA names.length nc, .slice A kids.length c] 26)) 3 #[.int .i64 (deep : Int)]
 rw [hw1] at hk2
 have HK2 := Lib.hid hk2
 clear hb1 hb2 hk2 hw1
 cases hal : aloneB validL (.mk k b n s names kids)
 ·
  have hr : Hid (mayJ validL (.mk k b n s names kids) deep = false) := by show _ = _; rw [mayJ, hal, Bool.false_and]
  rw [hal] at calone
  clear hal
  go_enter Tryz.func56, Tryz.ntmps56
  go_wp2_with (refine wpList_load_at rfl 26 _ rfl ⟨w.heap.size, 0, none⟩ rfl [.int .i64 k, .bool b, .int .i64 n, .string y, .slice NA names.length nc, .slice A kids.length c] _ (blk_cells HK1.out) Tryz.underlying26 rfl jv_size ?_)
  refine calone.out.mono ?_
  rintro _ w5 ⟨rfl, hb5⟩
  have HB5 := Lib.hid (below_next HB2.out hb5)
  clear hb5
  go_wp2_with fail
  go_ret
  exact ⟨by rw [hr.out]; rfl, HB5.out⟩
 have hrr : mayJ validL (.mk k b n s names kids) deep = (!decide (k = 5 ∨ k = 6) || (decide (deep < 8) && mayJs validL kids (deep + 1))) := by rw [mayJ, hal, Bool.true_and]
 rw [hal] at calone
 clear hal
 by_cases hm : k = 5 ∨ k = 6
 case neg =>
  have hr : Hid (mayJ validL (.mk k b n s names kids) deep = true) := by show _ = _; rw [hrr, decide_eq_false hm]; rfl
  have d1 : (k == 5) = false := by simp; omega
  have d2 : (k == 6) = false := by simp; omega
  have d3 : (k != 5) = true := by simp; omega
  have d4 : (k != 6) = true := by simp; omega
  clear hm hrr
  go_enter Tryz.func56, Tryz.ntmps56
  go_wp2_with (refine wpList_load_at rfl 26 _ rfl ⟨w.heap.size, 0, none⟩ rfl [.int .i64 k, .bool b, .int .i64 n, .string y, .slice NA names.length nc, .slice A kids.length c] _ (blk_cells HK1.out) Tryz.underlying26 rfl jv_size ?_)
  refine calone.out.mono ?_
  rintro _ w5 ⟨rfl, hb5⟩
  have HB5 := Lib.hid (below_next HB2.out hb5)
  have hk5 := HK1.out.below hb5 HK1.out.lt
  have c0 : w5.cell? ⟨w.heap.size, 0, none⟩ = some (.int .i64 k) := hk5.cell 0
  clear hb5 hk5
  go_wp2_with fail
  go_ret
  exact ⟨by rw [hr.out]; rfl, HB5.out⟩
 rw [decide_eq_true hm] at hrr
 by_cases h8 : deep < 8
 case neg =>
  have hr : Hid (mayJ validL (.mk k b n s names kids) deep = false) := by show _ = _; rw [hrr, decide_eq_false h8]; rfl
  have d1 : decide ((deep : Int) < 8) = false := by simp; omega
  have d2 : decide (deep < 8) = false := by simp; omega
  clear hrr
  rcases hm with rfl | rfl
  all_goals
   go_enter Tryz.func56, Tryz.ntmps56
   go_wp2_with (refine wpList_load_at rfl 26 _ rfl ⟨w.heap.size, 0, none⟩ rfl [.int .i64 _, .bool b, .int .i64 n, .string y, .slice NA names.length nc, .slice A kids.length c] _ (blk_cells HK1.out) Tryz.underlying26 rfl jv_size ?_)
   refine calone.out.mono ?_
   rintro _ w5 ⟨rfl, hb5⟩
   have HB5 := Lib.hid (below_next HB2.out hb5)
   have hk5 := HK1.out.below hb5 HK1.out.lt
   have c0 := hk5.cell 0
   have c1 : w5.cell? ⟨w.heap.size + 1, 0, none⟩ = some (.int .i64 (deep : Int)) := (HK2.out.below hb5 HK2.out.lt).cell 0
   clear hb5 hk5
   simp only [List.getElem?_toArray, List.getElem?_cons_zero] at c0
   go_wp2_with fail
   go_ret
   exact ⟨by rw [hr.out]; rfl, HB5.out⟩
 have hr : Hid (mayJ validL (.mk k b n s names kids) deep = !(kids.any fun x => !mayJ validL x (deep + 1))) := by
  show _ = _
  rw [hrr, decide_eq_true h8, mayJs_any]; rfl
 have d1 : decide ((deep : Int) < 8) = true := by simp; omega
 have d2 : decide (deep < 8) = true := by simp; omega
 have hcn : Hid (∀ W, Below w.heap.size w W → W.cell? ⟨w.heap.size + 1, 0, none⟩ = some (.int .i64 (deep : Int)) → w.heap.size + 1 < W.heap.size → Calls Tryz.prog 88 #[.slice A kids.length c, .func (.func 89) #[] #[.pointer (some ⟨w.heap.size + 1, 0, none⟩)]] W fun e w' => e = .returned (.bool (kids.any fun x => !mayJ validL x (deep + 1))) ∧ Below W.heap.size W w') := by
  intro W hW hcW hsW
  refine jcontains_walk 89 #[.pointer (some ⟨w.heap.size + 1, 0, none⟩)] (fun x => !mayJ validL x (deep + 1)) W kids ⟨fun _ _ => by kernel_rfl, fun k hk cs W' hW' hv' => ?_⟩ A c vs h2 (h7.below hW) ((h5.below hW).more hW.size)
  exact may1_walk k (hok k hk) cs deep (w.heap.size + 1) W' (smJs_all hs7 k hk) h8 hv' ((hW'.cell (p := ⟨w.heap.size + 1, 0, none⟩) hsW).trans hcW)
 clear hrr h3 h5 h7 hok
 rcases hm with rfl | rfl
 all_goals
  go_enter Tryz.func56, Tryz.ntmps56
  go_wp2_with (refine wpList_load_at rfl 26 _ rfl ⟨w.heap.size, 0, none⟩ rfl [.int .i64 _, .bool b, .int .i64 n, .string y, .slice NA names.length nc, .slice A kids.length c] _ (blk_cells HK1.out) Tryz.underlying26 rfl jv_size ?_)
  refine calone.out.mono ?_
  rintro _ w5 ⟨rfl, hb5⟩
  have HB5 := Lib.hid (below_next HB2.out hb5)
  have hk5 := HK1.out.below hb5 HK1.out.lt
  have c0 := hk5.cell 0
  have c5 : w5.cell? ⟨w.heap.size, 5, none⟩ = some (.slice A kids.length c) := hk5.cell 5
  have hk25 := HK2.out.below hb5 HK2.out.lt
  have c1 : w5.cell? ⟨w.heap.size + 1, 0, none⟩ = some (.int .i64 (deep : Int)) := hk25.cell 0
  have hlt5 := hk25.lt
  have cp := Lib.hid (hcn.out w5 HB5.out c1 hlt5)
  clear hb5 hk5 hk25 hlt5
  simp only [List.getElem?_toArray, List.getElem?_cons_zero] at c0
  go_wp2_with fail
  refine cp.out.mono ?_
  rintro _ w6 ⟨rfl, hb6⟩
  have HB6 := Lib.hid (below_next HB5.out hb6)
  clear hb6
  go_wp2_with fail
  go_ret
  exact ⟨by rw [hr.out]; rfl, HB6.out⟩
mutual
theorem may_all : ∀ t : Jv, MayOk t
 | .mk k b n s names kids => may_node k b n s names kids (may_each kids)
theorem may_each : ∀ ks : List Jv, ∀ k ∈ ks, MayOk k
 | [], k, h => by simp at h
 | x :: ks, k, h => by
  have h1 := may_all x
  have h2 := may_each ks
  rcases List.mem_cons.1 h with e | h
  ·
   rw [e]; exact h1
  ·
   exact h2 k h
end
def mayB (v : Jv) : Bool := mayJ validL v 0
theorem may_walk (v : Jv) (cs : List Value) (w : World) (hsm : smJ v) (hv : JvV w 0 v cs) : Calls Tryz.prog 36 #[.agg cs.toArray] w fun e w' => e = .returned (.bool (mayB v)) ∧ Below w.heap.size w w' := by
 obtain ⟨k1, b1, n1, s1, NA1, nn1, nc1, A1, m1, c1, rfl⟩ := hv.form
 have hb1 := (Below.refl w.heap.size w).alloc (Nat.le_refl _) (.cells #[.int .i64 k1, .bool b1, .int .i64 n1, .string s1, .slice NA1 nn1 nc1, .slice A1 m1 c1] 26)
 have cp : Hid (Calls Tryz.prog 56 #[.agg #[.int .i64 k1, .bool b1, .int .i64 n1, .string s1, .slice NA1 nn1 nc1, .slice A1 m1 c1], .int .i64 0] (w.alloc (.cells #[.int .i64 k1, .bool b1, .int .i64 n1, .string s1, .slice NA1 nn1 nc1, .slice A1 m1 c1] 26)) fun e w' => e = .returned (.bool (mayJ validL v 0)) ∧ Below (w.alloc (.cells #[.int .i64 k1, .bool b1, .int .i64 n1, .string s1, .slice NA1 nn1 nc1, .slice A1 m1 c1] 26)).heap.size (w.alloc (.cells #[.int .i64 k1, .bool b1, .int .i64 n1, .string s1, .slice NA1 nn1 nc1, .slice A1 m1 c1] 26)) w') := may_all v _ 0 _ hsm (by omega) (hv.below hb1)
 have HK := Lib.hid (Blk.new w 26 #[.int .i64 k1, .bool b1, .int .i64 n1, .string s1, .slice NA1 nn1 nc1, .slice A1 m1 c1])
 have HB1 := Lib.hid hb1
 clear hb1 hv
 go_enter Tryz.func36, Tryz.ntmps36
 go_wp2_with (refine wpList_load_at rfl 26 _ rfl ⟨w.heap.size, 0, none⟩ rfl [.int .i64 k1, .bool b1, .int .i64 n1, .string s1, .slice NA1 nn1 nc1, .slice A1 m1 c1] _ (blk_cells HK.out) Tryz.underlying26 rfl jv_size ?_)
 refine cp.out.mono ?_
 rintro _ w5 ⟨rfl, hb5⟩
 have HB5 := Lib.hid (below_next HB1.out hb5)
 clear hb5
 go_wp2_with fail
 go_ret
 exact ⟨rfl, HB5.out⟩
end Go.Proofs.YtieppmppdmcleaaGreatDoor
