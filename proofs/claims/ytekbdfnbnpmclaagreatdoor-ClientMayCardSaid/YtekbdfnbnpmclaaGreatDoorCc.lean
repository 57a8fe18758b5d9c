/- slices.Contains of texts; client.leads, client.redirects, countersignref17.redirects. Condition: the table of digits is laid. -/
import Derived.Test.YtekbdfnbnpmclaaGreatDoorCb
set_option linter.unusedVariables false
set_option linter.unusedSimpArgs false
set_option maxRecDepth 20000
namespace Go.Proofs.YtekbdfnbnpmclaaGreatDoor
open Go.RowKit Pc
set_option maxHeartbeats 2000000 in
theorem sindex_walk (A : Option Addr) (n c B : Nat) (ps : List (List UInt8)) (q : List UInt8) (w : World) (hr : Reads w B 1 A n (strVs ps)) (hn : ps.length = n) (hc : n ≤ c) (hb : n ≤ 1000001) :
    Calls Tryz.prog 35 #[.slice A n c, .string ⟨q.toArray⟩] w fun e w' => (∃ i : Int, e = .returned (.int .i64 i) ∧ decide (0 ≤ i) = ps.contains q) ∧ w = w' := by
  go_enter Tryz.func35, Tryz.ntmps35
  go_wp2_with fail
  go_loopw [8] (fun iv wr => ∃ k : Nat, k ≤ n ∧ iv = .int .i64 k ∧ Hid (∀ j p, j < k → ps[j]? = some p → p ≠ q) ∧ w = wr) (fun iv _ => n - (intOf iv).toNat)
  case atStart => exact ⟨0, by omega, rfl, fun j p hj => by omega, rfl⟩
  case round =>
    obtain ⟨k, hk, rfl, hp, rfl⟩ := hrel
    by_cases hlt : k < n
    · obtain ⟨ad, u, rfl, had, hu, hcu⟩ := hr.at_ hlt
      obtain ⟨p, hpk⟩ : ∃ p, ps[k]? = some p := ⟨_, List.getElem?_eq_getElem (by omega)⟩
      obtain rfl : u = .string ⟨p.toArray⟩ := by
        rw [strVs, List.getElem?_map, hpk] at hu
        injection hu with hu
        exact hu.symm
      have hcmp := eq_strL q p
      have hcmp2 := eq_strP q p ⟨p.toArray⟩ (by simp)
      by_cases he : q = p
      · have hv : Hid (ps.contains q = true) := by
          show _ = _
          rw [List.contains_iff_mem, he]
          exact List.mem_of_getElem? hpk
        clear hcmp hcmp2 hpk hu
        subst he
        go_wp2_with fail
        go_ret
        exact ⟨⟨k, rfl, by rw [hv.out]; simp⟩, rfl⟩
      · have HN : Hid (∀ j p, j < k + 1 → ps[j]? = some p → p ≠ q) := fun j p' hj hp' => by
          rcases Nat.lt_succ_iff_lt_or_eq.1 hj with h | rfl
          · exact hp.out j p' h hp'
          · rw [hpk] at hp'; injection hp' with hp'; subst hp'; exact fun e => he e.symm
        rw [decide_eq_false he] at hcmp
        clear hcmp2 hpk hu he
        generalize (⟨q.toArray⟩ : ByteArray) = x at hcmp ⊢
        generalize (⟨p.toArray⟩ : ByteArray) = y at hcmp hcu
        go_wp2_with fail
        exact ⟨⟨k + 1, by omega, by go_num, HN, trivial⟩, by simp [intOf]; omega⟩
    · have hv : Hid (ps.contains q = false) := by
        show _ = _
        rw [Bool.eq_false_iff, ne_eq, List.contains_iff_mem, List.mem_iff_getElem?]
        rintro ⟨j, hj⟩
        exact hp.out j q (by have := (List.getElem?_eq_some_iff.1 hj).1; omega) hj rfl
      go_wp2_with fail
      go_ret
      exact ⟨⟨-1, rfl, by rw [hv.out]; rfl⟩, rfl⟩
theorem scontains_walk (A : Option Addr) (n c B : Nat) (ps : List (List UInt8)) (q : List UInt8) (w : World) (hr : Reads w B 1 A n (strVs ps)) (hn : ps.length = n) (hc : n ≤ c) (hb : n ≤ 1000001) :
    Calls Tryz.prog 23 #[.slice A n c, .string ⟨q.toArray⟩] w fun e w' => e = .returned (.bool (ps.contains q)) ∧ w = w' := by
  have ci := Lib.hid (sindex_walk A n c B ps q w hr hn hc hb)
  clear hr hn hb
  go_enter Tryz.func23, Tryz.ntmps23
  go_wp2_with fail
  refine ci.out.mono ?_
  rintro _ w2 ⟨⟨i, rfl, hi⟩, rfl⟩
  have HI := Lib.hid hi
  clear hi
  go_wp2_with fail
  go_ret
  exact ⟨by rw [← HI.out]; rfl, rfl⟩
theorem wpList_store_ur {ops : Array Oper} {rest : List Oper} {op : Oper} {a : Act} (w : World) {Q : Exit → Act → World → Prop} {u : Ur} {A : Option Addr} {c : Nat} (hgd : op.guard = none) (x y : Operand) (ho : op.op = .store 60 x y)
    (hx : a.eval x = .pointer (some ⟨w.heap.size, 0, none⟩)) (hy : a.eval y = .agg (u.arr A c))
    (h : wpList Tryz.prog ops Q rest (a.put op.dst undef) (w.alloc (.cells (u.arr A c) 60))) : wpList Tryz.prog ops Q (op :: rest) a (w.alloc (.cells #[.string ⟨#[]⟩, .string ⟨#[]⟩, .slice none 0 0] 60)) :=
  wpList_store_fresh w hgd 60 x y ho #[.string ⟨#[]⟩, .string ⟨#[]⟩, .slice none 0 0] (u.arr A c) 60 hx hy rfl ur_size (ones3 u A c) h
set_option maxHeartbeats 8000000 in
theorem leads_walk (s : ByteArray) (l : List UInt8) (hs : s.data.toList = l) (w : World) (hd : DigOk w) (hm : s.size ≤ 1000000) :
    Calls Tryz.prog 41 #[.string s] w fun e w' => e = .returned (.bool (leadB l)) ∧ Below w.heap.size w w' := by
  have hsz : l.length = s.size := by rw [← hs, Lib.size_eq]
  have cp := uparse_walk s l hs w hd hm
  have HV : Hid (leadB l = (decide (l.length ≤ 256) && decide ((uriE l).1 = 0) && decide ((uriE l).2.q.length = 0))) := rfl
  unfold UriR at cp
  generalize uriE l = z at cp HV
  obtain ⟨m, u⟩ := z
  replace cp := Lib.hid cp
  have h1 : decide ((s.size : Int) ≤ 256) = decide (l.length ≤ 256) := by rw [hsz, decide_eq_decide]; omega
  have h2 : ((m : Int) == 0) = decide (m = 0) := by rw [Bool.eq_iff_iff, beq_iff_eq, decide_eq_true_eq]; omega
  have h3 : ((u.q.length : Int) == 0) = decide (u.q.length = 0) := by rw [Bool.eq_iff_iff, beq_iff_eq, decide_eq_true_eq]; omega
  simp only at HV
  generalize hx1 : decide (l.length ≤ 256) = x1 at h1 HV
  generalize hx2 : decide (m = 0) = x2 at h2 HV
  generalize hx3 : decide (u.q.length = 0) = x3 at h3 HV
  have H1 := Lib.hid h1
  clear hx1 hx2 hx3 hsz hs h1
  cases x1 <;> cases x2 <;> cases x3
  all_goals
    have h1 := H1.out
    go_enter Tryz.func41, Tryz.ntmps41
    go_wp2_with fail
    refine cp.out.mono ?_
    rintro _ w1 ⟨A1, c1, rfl, hf1, hbn⟩
    have HB2 := Lib.hid (hbn.alloc hbn.size (.cells (u.arr A1 c1) 60))
    have hc2 := (boxU (Blk.new w1 60 (u.arr A1 c1))).2.2.2
    clear hbn hf1
    go_wp2_with (refine wpList_store_ur w1 rfl _ _ rfl rfl rfl ?_)
    go_ret
    exact ⟨by rw [HV.out]; rfl, HB2.out⟩
/-- texts that are not too long -/
def Short (ps : List (List UInt8)) : Prop := ps.length ≤ 5000 ∧ ∀ p ∈ ps, p.length ≤ 10000
set_option maxHeartbeats 8000000 in
theorem redirects_walk (ps : List (List UInt8)) (A : Option Addr) (c : Nat) (w : World) (hr : StrsAt w A c ps) (hd : DigOk w) (hm : Short ps) :
    Calls Tryz.prog 29 #[.slice A ps.length c] w fun e w' => e = .returned (.bool (redB ps)) ∧ Below w.heap.size w w' := by
  obtain ⟨hpl, hps⟩ := hm
  have HD := Lib.hid hd
  have hpc := hr.1
  have HR := Lib.hid hr
  have HS := Lib.hid hps
  have HV : Hid (redB ps = (redsB [] ps && (decide (1 ≤ ps.length) && decide (ps.length ≤ 4)))) := rfl
  clear hd hr hps
  go_enter Tryz.func29, Tryz.ntmps29
  go_wp2_with fail
  go_loopw [7] (fun iv wr => ∃ k : Nat, k ≤ ps.length ∧ iv = .int .i64 k ∧ Hid (redsB (ps.take k) (ps.drop k) = redsB [] ps) ∧ Hid (Below w.heap.size w wr)) (fun iv _ => ps.length - (intOf iv).toNat)
  case atStart => exact ⟨0, by omega, rfl, rfl, Below.refl _ _⟩
  case round =>
    obtain ⟨k, hk, rfl, hp, HB⟩ := hrel
    by_cases hlt : k < ps.length
    case neg =>
      obtain rfl : k = ps.length := by omega
      have hv : Hid (redB ps = (decide (1 ≤ ps.length) && decide (ps.length ≤ 4))) := by show _ = _; rw [HV.out, ← hp.out, redsB_end, Bool.true_and]
      clear hp hlt hk HS HR HV HD hpc
      generalize ps.length = n at hpl hv ⊢
      by_cases h0 : 0 < n
      · have h1 : decide ((0 : Int) < (n : Int)) = true := by simp; omega
        have h1b : decide (0 < n) = true := by simp; omega
        have h1c : decide (1 ≤ n) = true := by simp; omega
        rw [h1c] at hv
        by_cases h4 : n ≤ 4
        · have h2 : decide ((n : Int) ≤ (4 : Int)) = true := by simp; omega
          have h2b : decide (n ≤ 4) = true := by simp; omega
          rw [h2b] at hv
          clear h1c
          go_wp2_with fail
          go_ret
          exact ⟨by rw [hv.out]; rfl, HB.out⟩
        · have h2 : decide ((n : Int) ≤ (4 : Int)) = false := by simp; omega
          have h2b : decide (n ≤ 4) = false := by simp; omega
          rw [h2b] at hv
          clear h1c
          go_wp2_with fail
          go_ret
          exact ⟨by rw [hv.out]; rfl, HB.out⟩
      · have h1 : decide ((0 : Int) < (n : Int)) = false := by simp; omega
        have h1b : decide (0 < n) = false := by simp; omega
        have h1c : decide (1 ≤ n) = false := by simp; omega
        rw [h1c] at hv
        clear h1c
        go_wp2_with fail
        go_ret
        exact ⟨by rw [hv.out]; rfl, HB.out⟩
    obtain ⟨p, hpk⟩ : ∃ p, ps[k]? = some p := ⟨_, List.getElem?_eq_getElem hlt⟩
    obtain ⟨ad, rfl, hcell⟩ := (HR.out.below HB.out).get hpk
    have hpl2 := HS.out p (List.mem_of_getElem? hpk)
    have cl := Lib.hid (leads_walk ⟨p.toArray⟩ p (by simp) wr (HD.out.below HB.out) (by rw [size_mks]; omega))
    have hst := Lib.hid (redsB_at ps k p hpk)
    have cc := Lib.hid (fun W (h : StrsAt W (some ad) c ps) => scontains_walk (some ad) k c W.heap.size (ps.take k) p W (by have := h.2.front (k := k) (by omega); rw [Nat.mul_one] at this; rw [strVs, List.map_take]; exact this) (by rw [List.length_take]; omega) (by omega) (by omega))
    clear hpk
    cases hl : leadB p
    · rw [hl] at cl
      have hv : Hid (redB ps = false) := by show _ = _; rw [HV.out, ← hp.out, hst.out, hl]; rfl
      go_wp2_with fail
      refine cl.out.mono ?_
      rintro _ w1 ⟨rfl, hbn⟩
      have HB2 := Lib.hid (below_next HB.out hbn)
      clear hbn
      go_wp2_with fail
      go_ret
      exact ⟨by rw [hv.out]; rfl, HB2.out⟩
    · rw [hl] at cl
      cases hin : (ps.take k).contains p
      · rw [hin] at cc
        have hv : Hid (redsB (ps.take (k + 1)) (ps.drop (k + 1)) = redsB [] ps) := by show _ = _; rw [← hp.out, hst.out, hl, hin]; rfl
        go_wp2_with fail
        refine cl.out.mono ?_
        rintro _ w1 ⟨rfl, hbn⟩
        have HB2 := Lib.hid (below_next HB.out hbn)
        have c2 := Lib.hid (cc.out w1 (HR.out.below HB2.out))
        clear hbn hcell
        go_wp2_with fail
        refine c2.out.mono ?_
        rintro _ w2 ⟨rfl, rfl⟩
        go_wp2_with fail
        exact ⟨⟨k + 1, by omega, by go_num, hv, HB2⟩, by simp [intOf]; omega⟩
      · rw [hin] at cc
        have hv : Hid (redB ps = false) := by show _ = _; rw [HV.out, ← hp.out, hst.out, hl, hin]; rfl
        go_wp2_with fail
        refine cl.out.mono ?_
        rintro _ w1 ⟨rfl, hbn⟩
        have HB2 := Lib.hid (below_next HB.out hbn)
        have c2 := Lib.hid (cc.out w1 (HR.out.below HB2.out))
        clear hbn hcell
        go_wp2_with fail
        refine c2.out.mono ?_
        rintro _ w2 ⟨rfl, rfl⟩
        go_wp2_with fail
        go_ret
        exact ⟨by rw [hv.out]; rfl, HB2.out⟩
end Go.Proofs.YtekbdfnbnpmclaaGreatDoor
