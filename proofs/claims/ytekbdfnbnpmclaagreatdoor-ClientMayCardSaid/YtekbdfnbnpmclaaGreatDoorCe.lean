/- client.one, May, asked, Auth; countersignref17.Auth, Knows. Condition: the table of digits is laid. -/
import Derived.Test.YtekbdfnbnpmclaaGreatDoorCd
set_option linter.unusedVariables false
set_option linter.unusedSimpArgs false
set_option maxRecDepth 20000
namespace Go.Proofs.YtekbdfnbnpmclaaGreatDoor
open Go.RowKit Pc
theorem parseR_both {ps : List (List UInt8)} {w w' : World} {e : Ending} (h : S16.ParseR ps w e w') : ∃ v, e = .returned (.tuple #[v, .int .i64 (S16.scopeE ps : Nat)]) ∧ Below w.heap.size w w' := by
  obtain ⟨hb, ⟨h0, g, c, he, _⟩ | ⟨_, he⟩⟩ := h
  · exact ⟨_, by rw [he, h0]; rfl, hb⟩
  · exact ⟨_, he, hb⟩
/-- a client whose texts are not too long -/
def CShort (f : Cl) : Prop := Short f.red ∧ f.id.length ≤ 10000 ∧ f.sc.length ≤ 10000
theorem boxC {g : Nat} {f : Cl} {W : World} (h : Blk W g 31 f.arr) : W.cell? ⟨g, 0, none⟩ = some (.string ⟨f.id.toArray⟩) ∧ W.cell? ⟨g, 1, none⟩ = some (.int .i64 f.sec) ∧ W.cell? ⟨g, 2, none⟩ = some (.slice f.ra f.red.length f.rc) ∧ W.cell? ⟨g, 3, none⟩ = some (.string ⟨f.sc.toArray⟩) := ⟨h.cell 0, h.cell 1, h.cell 2, h.cell 3⟩
set_option maxHeartbeats 8000000 in
theorem one_client (f : Cl) (w : World) (hr : StrsAt w f.ra f.rc f.red) (hd : DigOk w) (hs : CShort f) :
    Calls Tryz.prog 15 #[.agg f.arr] w fun e w' => e = .returned (.bool (oneB f)) ∧ Below w.heap.size w w' := by
  obtain ⟨hs1, hs2, hs3⟩ := hs
  have HB1 := Lib.hid ((Below.refl w.heap.size w).alloc (Nat.le_refl _) (.cells f.arr 31))
  have HK1 := Lib.hid (Blk.new w 31 f.arr)
  have hc3 := (boxC HK1.out).2.2.2
  have hgl := HK1.out.lt
  have HV : Hid (oneB f = (S16.wordB f.id && (decide (0 ≤ f.sec) && (decide (f.sec ≤ 1073741824) && (redB f.red && decide (S16.scopeE (splitC 32 f.sc) = 0)))))) := rfl
  have cs := Lib.hid (fun W => S16.parse_walk ⟨f.sc.toArray⟩ f.sc (by simp) W (by rw [size_mks]; omega))
  have cw := Lib.hid (fun W => S16.word_walk ⟨f.id.toArray⟩ f.id (by simp) W (by rw [size_mks]; omega))
  have cr := Lib.hid (fun W h hd => redirects_walk f.red f.ra f.rc W h hd hs1)
  have h2 : decide ((0 : Int) ≤ f.sec) = decide (0 ≤ f.sec) := rfl
  have h5 : (((S16.scopeE (splitC 32 f.sc) : Nat) : Int) == 0) = decide (S16.scopeE (splitC 32 f.sc) = 0) := by rw [Bool.eq_iff_iff, beq_iff_eq, decide_eq_true_eq]; omega
  have HR := Lib.hid hr
  have HD := Lib.hid hd
  generalize S16.wordB f.id = x1 at cw HV
  generalize redB f.red = x4 at cr HV
  generalize hx5 : decide (S16.scopeE (splitC 32 f.sc) = 0) = x5 at h5 HV
  clear hx5 h2 hr hd hs1 hs2 hs3
  cases x1
  case false =>
    go_enter Tryz.func15, Tryz.ntmps15
    go_wp2_with fail
    refine (cs.out _).mono ?_
    intro e w1 hpr
    obtain ⟨v, rfl, hbn⟩ := parseR_both hpr
    have HB2 := Lib.hid (below_next HB1.out hbn)
    have hc0 := (boxC (HK1.out.below hbn HK1.out.lt)).1
    clear hpr hbn hc3
    go_wp2_with fail
    refine (cw.out _).mono ?_
    rintro _ w2 ⟨rfl, rfl⟩
    go_wp2_with fail
    go_ret
    exact ⟨by rw [HV.out]; rfl, HB2.out⟩
  case true =>
    by_cases hz : 0 ≤ f.sec
    case neg =>
      have hz2 : decide ((0 : Int) ≤ f.sec) = false := by simp; omega
      rw [hz2] at HV
      go_enter Tryz.func15, Tryz.ntmps15
      go_wp2_with fail
      refine (cs.out _).mono ?_
      intro e w1 hpr
      obtain ⟨v, rfl, hbn⟩ := parseR_both hpr
      have HB2 := Lib.hid (below_next HB1.out hbn)
      have hk := HK1.out.below hbn HK1.out.lt
      have hc0 := (boxC hk).1
      have hc1 := (boxC hk).2.1
      have hgl := hk.lt
      clear hpr hbn hc3 hk
      go_wp2_with fail
      refine (cw.out _).mono ?_
      rintro _ w2 ⟨rfl, rfl⟩
      go_wp2_with fail
      go_ret
      exact ⟨by rw [HV.out]; rfl, HB2.out⟩
    have hz2 : decide ((0 : Int) ≤ f.sec) = true := by simp; omega
    rw [hz2] at HV
    by_cases hy : f.sec ≤ 1073741824
    case neg =>
      have hy2 : decide (f.sec ≤ (1073741824 : Int)) = false := by simp; omega
      rw [hy2] at HV
      go_enter Tryz.func15, Tryz.ntmps15
      go_wp2_with fail
      refine (cs.out _).mono ?_
      intro e w1 hpr
      obtain ⟨v, rfl, hbn⟩ := parseR_both hpr
      have HB2 := Lib.hid (below_next HB1.out hbn)
      have hk := HK1.out.below hbn HK1.out.lt
      have hc0 := (boxC hk).1
      have hc1 := (boxC hk).2.1
      have hgl := hk.lt
      clear hpr hbn hc3 hk
      go_wp2_with fail
      refine (cw.out _).mono ?_
      rintro _ w2 ⟨rfl, rfl⟩
      go_wp2_with fail
      go_ret
      exact ⟨by rw [HV.out]; rfl, HB2.out⟩
    have hy2 : decide (f.sec ≤ (1073741824 : Int)) = true := by simp; omega
    rw [hy2] at HV
    cases x4 <;> cases x5
    all_goals
      go_enter Tryz.func15, Tryz.ntmps15
      go_wp2_with fail
      refine (cs.out _).mono ?_
      intro e w1 hpr
      obtain ⟨v, rfl, hbn⟩ := parseR_both hpr
      have HB2 := Lib.hid (below_next HB1.out hbn)
      have hk := HK1.out.below hbn HK1.out.lt
      have hc0 := (boxC hk).1
      have hc1 := (boxC hk).2.1
      have hc2 := (boxC hk).2.2.1
      have hgl := hk.lt
      clear hpr hbn hc3 hk
      go_wp2_with fail
      refine (cw.out _).mono ?_
      rintro _ w2 ⟨rfl, rfl⟩
      have c2 := Lib.hid (cr.out w1 (HR.out.below HB2.out) (HD.out.below HB2.out))
      go_wp2_with fail
      refine c2.out.mono ?_
      rintro _ w3 ⟨rfl, hbn⟩
      have HB3 := Lib.hid (below_next HB2.out hbn)
      clear hbn
      go_wp2_with fail
      go_ret
      exact ⟨by rw [HV.out]; rfl, HB3.out⟩
/-- clients that are not too many, nor too long -/
def ClsShort (cs : List Cl) : Prop := cs.length ≤ 5000 ∧ ∀ f ∈ cs, CShort f
set_option maxHeartbeats 8000000 in
theorem may_client (cs : List Cl) (A : Option Addr) (c : Nat) (w : World) (hr : ClsAt w A c cs) (hd : DigOk w) (hs : ClsShort cs) :
    Calls Tryz.prog 7 #[.slice A cs.length c] w fun e w' => e = .returned (.bool (clMayB cs)) ∧ Below w.heap.size w w' := by
  obtain ⟨hl, hsh⟩ := hs
  have HS := Lib.hid hsh
  have HR := Lib.hid hr
  have HD := Lib.hid hd
  have HV : Hid (clMayB cs = (decide (cs.length ≤ 8) && maysB [] cs)) := rfl
  have hcl := hr.1
  clear hr hd hsh
  by_cases h8 : 8 < cs.length
  · have hd8 : decide ((8 : Int) < (cs.length : Int)) = true := by simp; omega
    have hv : Hid (clMayB cs = false) := by show _ = _; rw [HV.out, show decide (cs.length ≤ 8) = false by simp; omega, Bool.false_and]
    go_enter Tryz.func7, Tryz.ntmps7
    go_wp2_with fail
    go_ret
    exact ⟨by rw [hv.out]; rfl, Below.refl _ _⟩
  have hd8 : decide ((8 : Int) < (cs.length : Int)) = false := by simp; omega
  have HW : Hid (clMayB cs = maysB [] cs) := by show _ = _; rw [HV.out, show decide (cs.length ≤ 8) = true by simp; omega, Bool.true_and]
  have cf := Lib.hid (fun q W h => find_walk q cs A c W h (by omega))
  go_enter Tryz.func7, Tryz.ntmps7
  go_wp2_with fail
  go_loopw [12] (fun iv wr => ∃ k : Nat, k ≤ cs.length ∧ iv = .int .i64 k ∧ Hid (maysB (cs.take k) (cs.drop k) = maysB [] cs) ∧ Hid (Below w.heap.size w wr)) (fun iv _ => cs.length - (intOf iv).toNat)
  case atStart => exact ⟨0, by omega, rfl, rfl, Below.refl _ _⟩
  case round =>
    obtain ⟨k, hk, rfl, hp, HB⟩ := hrel
    by_cases hlt : k < cs.length
    case neg =>
      obtain rfl : k = cs.length := by omega
      have hv : Hid (clMayB cs = true) := by show _ = _; rw [HW.out, ← hp.out, maysB_end]
      go_wp2_with fail
      go_ret
      exact ⟨by rw [hv.out]; rfl, HB.out⟩
    obtain ⟨f, hfk⟩ : ∃ f, cs[k]? = some f := ⟨_, List.getElem?_eq_getElem hlt⟩
    have hmem := List.mem_of_getElem? hfk
    have hR := HR.out.below HB.out
    obtain ⟨ad, hA⟩ : ∃ ad, A = some ad := by obtain ⟨ad, h, _⟩ := hR.2.1.2 (by omega); exact ⟨ad, h⟩
    have hra := Lib.hid (cl_at (by rw [← hA]; exact hR.2.1) hfk)
    have hb1 := HB.out.alloc HB.out.size (.cells f.arr 31)
    have HB1 := Lib.hid hb1
    have HK1 := Lib.hid (Blk.new wr 31 f.arr)
    have hc0 := (boxC HK1.out).1
    have hgl := HK1.out.lt
    have hst := Lib.hid (maysB_at cs k f hfk)
    obtain ⟨hseen1, hseen2⟩ := findI_seen hfk
    have co := Lib.hid (fun W h hd => one_client f W h hd (HS.out f hmem))
    rw [show f.arr = #[.string ⟨f.id.toArray⟩, .int .i64 f.sec, .slice f.ra f.red.length f.rc, .string ⟨f.sc.toArray⟩] from rfl] at co
    have c1 := Lib.hid (cf.out f.id _ (HR.out.below hb1))
    unfold findV at c1
    subst hA
    cases hany : (cs.take k).any (isId f.id)
    · have hI := hseen1 hany
      rw [hI] at c1
      have hkk : (((k : Int) + 1) != ((k : Int) + 1)) = false := by simp
      clear hseen1 hseen2 hI hb1 hR
      cases ho : oneB f
      · have hv : Hid (clMayB cs = false) := by show _ = _; rw [HW.out, ← hp.out, hst.out, hany, ho]; rfl
        rw [ho] at co
        clear hany ho
        go_wp2_with (first | (refine wpList_store_cl wr rfl _ _ rfl rfl rfl ?_) | (refine wpList_load_cl rfl _ rfl (ad.add (k * 4)) rfl f hra.out ?_))
        refine c1.out.mono ?_
        rintro _ w2 ⟨rfl, hbn⟩
        have HB2 := Lib.hid (below_next HB1.out hbn)
        have hk2 := HK1.out.below hbn HK1.out.lt
        have hc0 := (boxC hk2).1
        have hc1 := (boxC hk2).2.1
        have hc2 := (boxC hk2).2.2.1
        have hc3 := (boxC hk2).2.2.2
        have hgl := hk2.lt
        have c2 := Lib.hid (co.out w2 ((HR.out.below HB2.out).2.2 f hmem) (HD.out.below HB2.out))
        clear hbn hk2
        go_wp2_with fail
        refine c2.out.mono ?_
        rintro _ w3 ⟨rfl, hbn⟩
        have HB3 := Lib.hid (below_next HB2.out hbn)
        clear hbn
        go_wp2_with fail
        go_ret
        exact ⟨by rw [hv.out]; rfl, HB3.out⟩
      · have hv : Hid (maysB (cs.take (k + 1)) (cs.drop (k + 1)) = maysB [] cs) := by show _ = _; rw [← hp.out, hst.out, hany, ho]; rfl
        rw [ho] at co
        clear hany ho
        go_wp2_with (first | (refine wpList_store_cl wr rfl _ _ rfl rfl rfl ?_) | (refine wpList_load_cl rfl _ rfl (ad.add (k * 4)) rfl f hra.out ?_))
        refine c1.out.mono ?_
        rintro _ w2 ⟨rfl, hbn⟩
        have HB2 := Lib.hid (below_next HB1.out hbn)
        have hk2 := HK1.out.below hbn HK1.out.lt
        have hc0 := (boxC hk2).1
        have hc1 := (boxC hk2).2.1
        have hc2 := (boxC hk2).2.2.1
        have hc3 := (boxC hk2).2.2.2
        have hgl := hk2.lt
        have c2 := Lib.hid (co.out w2 ((HR.out.below HB2.out).2.2 f hmem) (HD.out.below HB2.out))
        clear hbn hk2
        go_wp2_with fail
        refine c2.out.mono ?_
        rintro _ w3 ⟨rfl, hbn⟩
        have HB3 := Lib.hid (below_next HB2.out hbn)
        clear hbn
        go_wp2_with fail
        exact ⟨⟨k + 1, by omega, by go_num, hv, HB3⟩, by simp [intOf]; omega⟩
    · obtain ⟨j, hj, hI⟩ := hseen2 hany
      rw [hI] at c1
      have hkk : (((j : Int) + 1) != ((k : Int) + 1)) = true := by rw [bne_iff_ne]; omega
      have hkk2 : (((j : Int) + 1) == ((k : Int) + 1)) = false := by rw [beq_eq_false_iff_ne]; omega
      have hv : Hid (clMayB cs = false) := by show _ = _; rw [HW.out, ← hp.out, hst.out, hany]; rfl
      clear hseen1 hseen2 hI hb1 hR hany
      go_wp2_with (first | (refine wpList_store_cl wr rfl _ _ rfl rfl rfl ?_) | (refine wpList_load_cl rfl _ rfl (ad.add (k * 4)) rfl f hra.out ?_))
      refine c1.out.mono ?_
      rintro _ w2 ⟨rfl, hbn⟩
      have HB2 := Lib.hid (below_next HB1.out hbn)
      clear hbn
      go_wp2_with fail
      go_ret
      exact ⟨by rw [hv.out]; rfl, HB2.out⟩
end Go.Proofs.YtekbdfnbnpmclaaGreatDoor
