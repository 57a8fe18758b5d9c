/- The statement CodeBack. No condition of its own. -/
import Derived.Test.YtnckjglohaaobaaEd
import Derived.Test.YtnckjglohaaobaaKp
import Derived.Deep.DeepCutAuto
import Derived.Deep.CutBlock
set_option linter.unusedVariables false
set_option linter.unusedSimpArgs false
namespace Go.Proofs.Ytnckjglohaaobaa
open Go.RowKit
theorem TmV.keeps {W : World} {lo : Nat} {t : Tm} {cs : List Value} (h : TmV W lo t cs) : Keeps W (fun X => TmV X 0 t cs) := fun W' hb => (h.below hb).low (Nat.zero_le _)
set_option maxHeartbeats 8000000 in
theorem back_law (zs : List Int) (A1 : Option Addr) (c1 : Nat) (bs : List UInt8) (A2 : Option Addr) (c2 : Nat) (cut : Int) (w : World) (h1 : IntsIn w A1 c1 zs) (h2 : BytesIn w A2 c2 bs) (hcut : -9223372036854775808 ≤ cut ∧ cut ≤ 9223372036854775807) :
    Calls Try.prog 5 #[.slice A1 zs.length c1, .slice A2 bs.length c2, .int .i64 cut] w fun e w' => e = .returned (.bool true) ∧ Below w.heap.size w w' := by
  obtain ⟨i0, hi, hz0, hz1, hz2⟩ := info_parts4 info_u8
  obtain ⟨hcut1, hcut2⟩ := hcut
  by_cases hl : 100 < bs.length
  · have hl' : (100 : Int) < (bs.length : Int) := by omega
    clear h1 h2
    go_enter Try.func5, Try.ntmps5
    go_wp2_with fail
    refine (known_walk w).mono ?_
    rintro _ w1 ⟨rfl, hb1⟩
    go_wp2_with fail
    go_ret
    exact ⟨rfl, hb1⟩
  have hl' : (bs.length : Int) ≤ 100 := by omega
  have hmay := oneL_may zs
  have HP : Hid (putT (oneL zs) = encT (oneL zs)) := put_of hmay
  have HTK := Lib.hid (take_put hmay bs)
  have HTC := Lib.hid (take_cut hmay)
  have HON := Lib.hid (one_more hmay 1)
  have hpos := enc_pos (oneL zs)
  have hle := enc_bound hmay
  generalize hbt : encT (oneL zs) = bt at HP HTK HTC HON hpos hle
  have HBT := Lib.hid hbt
  have hz : ((bt.length : Int) == 0) = false := by rw [beq_eq_false_iff_ne]; omega
  have hnp : (0 : Int) < (bt.length : Int) := by omega
  have hll : (bt ++ bs).length = bt.length + bs.length := List.length_append
  have hl1 : (bt ++ [1]).length = bt.length + 1 := List.length_append
  have HLL := Lib.hid hll
  have HL1 := Lib.hid hl1
  have hlb : bs.length ≤ 100 := by omega
  clear hmay hbt hl hll hl1
  go_enter Try.func5, Try.ntmps5
  go_wp2_with fail
  refine (known_walk w).mono ?_
  rintro _ w1 ⟨rfl, hb1⟩
  have co := Lib.hid (onel_walk zs A1 c1 w1 (h1.below hb1))
  have HK := Lib.hid ((below_keeps hb1).and (h2.below hb1).keeps)
  clear h1 h2 hb1
  go_wp2_with fail
  refine co.out.mono ?_
  rintro _ w2 ⟨kd, nm, s, A, m, c, rfl, htv, hb2⟩
  have HK := Lib.hid (HK.out.next hb2 htv.keeps)
  have hx2 := Blk.new w2 24 #[.int .i64 kd, .int .i64 nm, .string s, .slice A m c]
  have HK := Lib.hid (HK.out.next ((Below.refl _ _).alloc (Nat.le_refl _) (.cells #[.int .i64 kd, .int .i64 nm, .string s, .slice A m c] 24)) hx2.keeps)
  have cp := Lib.hid (put_walk (oneL zs) kd nm s A m c _ HK.out.now.1.2)
  clear co htv hb2
  go_wp2_with (first
    | (refine wpList_store_fresh w2 rfl 24 _ _ rfl _ #[.int .i64 kd, .int .i64 nm, .string s, .slice A m c] _ rfl rfl rfl term_size (ones4 _ _ _ _ _ _) ?_)
    | (refine wpList_load_at rfl 24 _ rfl ⟨w2.heap.size, 0, none⟩ rfl [.int .i64 kd, .int .i64 nm, .string s, .slice A m c] _ (blk_cells hx2) Try.underlying24 rfl term_size ?_))
  refine cp.out.mono ?_
  rintro _ w4 ⟨v, rfl, hown, hb4⟩
  rw [HP.out] at hown
  obtain ⟨g, cap, rfl, hgl, hgl2⟩ := hown.form hpos
  obtain ⟨_, hbi⟩ := BytesIn.of_own hown
  have HK := Lib.hid (HK.out.next hb4 hbi.keeps)
  have hcap : bt.length ≤ cap := hbi.1
  have hrb := hbi.2.2
  have hrs := HK.out.now.1.1.1.2.2.2
  clear cp hb4 hown hx2
  go_wp2_with (at_builtin; first
    | (refine wpList_append_sl (w4.alloc (.cells #[] 5)) rfl (.tmp 31) (.tmp 32) 28 rfl w4.heap.size 5 i0 (.int .u8 0) 1 1 Try.underlying28 hi hz0 hz1 hz2 rfl (by decide) (.slice (some ⟨w4.heap.size, 0, none⟩) 0 0) 0 [] rfl (own_empty w4 _) w4.heap.size (some ⟨g, 0, none⟩) bt.length cap (Lib.byteCells bt) rfl (hrb.alloc (Nat.le_refl _) _) (byteCells_ones _) (by unfold maxLen; omega) (by omega) (by simp) bt.length (Nat.zero_add _) (Lib.byteCells bt) (List.nil_append _) ?_; intro A5 c5 w5 hc5 hown5 hg5; have hb5 := grown_below ((Below.refl w4.heap.size w4).alloc (Nat.le_refl _) (.cells #[] 5)) (own_empty w4 _) hg5 (by simp))
    | (refine wpList_append_sl w5 rfl (.tmp 33) (.tmp 34) 28 rfl w4.heap.size 5 i0 (.int .u8 0) 1 1 Try.underlying28 hi hz0 hz1 hz2 rfl (by decide) (.slice A5 bt.length c5) bt.length (Lib.byteCells bt) rfl hown5 w4.heap.size A2 bs.length c2 (Lib.byteCells bs) rfl (hrs.below hb5) (byteCells_ones _) (by unfold maxLen; omega) (by omega) hb5.size (bt ++ bs).length HLL.out.symm (Lib.byteCells (bt ++ bs)) (by rw [byteCells_append]) ?_; intro A6 c6 w6 hc6 hown6 hg6; have hb6 := grown_below hb5 hown5 hg6 hb5.size))
  obtain ⟨_, hbi6⟩ := BytesIn.of_own hown6
  have ct := take_walk (bt ++ bs) A6 c6 w6 (by rw [HLL.out]; omega) hbi6.1 hbi6.2.1 hbi6.2.2
  rw [HTK.out, HLL.out] at ct
  have HK := Lib.hid (HK.out.on hb6)
  with_reducible refine ct.mono ?_
  rintro _ w7 ⟨kd', nm', s', A', m', c', rfl, htv', _, hb7⟩
  have HK := Lib.hid (HK.out.next hb7 htv'.keeps)
  have hx7 := Blk.new w7 24 #[.int .i64 kd', .int .i64 nm', .string s', .slice A' m' c']
  have HK := Lib.hid (HK.out.next ((Below.refl _ _).alloc (Nat.le_refl _) (.cells #[.int .i64 kd', .int .i64 nm', .string s', .slice A' m' c'] 24)) hx7.keeps)
  clear ct hb7 htv' hbi6 hb6 hb5 hown5 hown6 hg5 hg6 hrs hrb hbi hx7 hc5 hc6
  obtain ⟨r, er⟩ : ∃ r, cut.tmod (bt.length : Int) = r := ⟨_, rfl⟩
  have hr1 : -(bt.length : Int) < r := by rw [← er]; exact Int.lt_tmod_of_pos _ hnp
  have hr2 : r < (bt.length : Int) := by rw [← er]; exact Int.tmod_lt_of_pos _ hnp
  have hdv : ((bt.length : Int) == 0) = false := hz
  have hkk : ∃ k : Nat, k < bt.length ∧ ((r < 0 ∧ r + (bt.length : Int) = (k : Int)) ∨ (0 ≤ r ∧ r = (k : Int))) := by
    by_cases h0 : r < 0
    · exact ⟨(r + (bt.length : Int)).toNat, by omega, .inl ⟨h0, by omega⟩⟩
    · exact ⟨r.toNat, by omega, .inr ⟨by omega, by omega⟩⟩
  obtain ⟨k, hk, hrk⟩ := hkk
  have hkl : (bt.take k).length = k := by rw [List.length_take]; omega
  have hkz : (k : Int) ≤ (cap : Int) := by omega
  have HRK := Lib.hid hrk
  clear hrk
  go_upto_if 45 with (refine wpList_store_fresh w7 rfl 24 _ _ rfl _ #[.int .i64 kd', .int .i64 nm', .string s', .slice A' m' c'] _ rfl rfl rfl term_size (ones4 _ _ _ _ _ _) ?_)
  go_cut [12] from 46 to 49 (fun v12 wx => v12 = .int .i64 (k : Int) ∧ w7.alloc (.cells #[.int .i64 kd', .int .i64 nm', .string s', .slice A' m' c'] 24) = wx)
  case first =>
    rcases HRK.out with ⟨hr0, erk⟩ | ⟨hr0, rfl⟩
    all_goals
      go_wp2_with fail
      go_meet
      exact ⟨rfl, rfl⟩
  case rest =>
  obtain ⟨rfl, rfl⟩ := hcut
  clear HRK er hr1 hr2 hz hdv
  go_wp2_with fail
  have hrk := HK.out.now.1.1.2.2.2
  have ct := take_walk (bt.take k) (some ⟨g, 0, none⟩) cap _ (by rw [hkl]; omega) (by rw [hkl]; omega) HK.out.now.1.1.2.2.1 (by rw [hkl]; exact hrk.frontB (by omega))
  rw [HTC.out k hk, hkl] at ct
  have CT := Lib.hid ct
  clear ct hrk
  with_reducible refine CT.out.mono ?_
  rintro _ w8 ⟨rfl, hb8⟩
  have HK := Lib.hid ((HK.out.on hb8).alloc (.cells #[.int .i64 0, .int .i64 0, .string ⟨#[]⟩, .slice none 0 0] 24))
  have hrb := HK.out.now.1.1.2.2.2
  clear hb8 CT
  go_wp2_with (first
    | (refine wpList_store_fresh w8 rfl 24 _ _ rfl _ #[.int .i64 0, .int .i64 0, .string ⟨#[]⟩, .slice none 0 0] _ rfl rfl rfl term_size (ones4 _ _ _ _ _ _) ?_; (generalize (w8.alloc (.cells #[.int .i64 0, .int .i64 0, .string ⟨#[]⟩, .slice none 0 0] 24)) = w9 at HK hrb ⊢))
    | (at_builtin; first
      | (refine wpList_append_sl (w9.alloc (.cells #[] 5)) rfl (.tmp 59) (.tmp 60) 28 rfl w9.heap.size 5 i0 (.int .u8 0) 1 1 Try.underlying28 hi hz0 hz1 hz2 rfl (by decide) (.slice (some ⟨w9.heap.size, 0, none⟩) 0 0) 0 [] rfl (own_empty w9 _) w9.heap.size (some ⟨g, 0, none⟩) bt.length cap (Lib.byteCells bt) rfl (hrb.alloc (Nat.le_refl _) _) (byteCells_ones _) (by unfold maxLen; omega) (by omega) (by simp) bt.length (Nat.zero_add _) (Lib.byteCells bt) (List.nil_append _) ?_; intro A5 c5 w5 hc5 hown5 hg5; have hb5 := grown_below ((Below.refl w9.heap.size w9).alloc (Nat.le_refl _) (.cells #[] 5)) (own_empty w9 _) hg5 (by simp))
      | (refine wpList_append_sl (w5.alloc (.cells #[.int .u8 1] 5)) rfl (.tmp 61) (.tmp 62) 28 rfl w9.heap.size 5 i0 (.int .u8 0) 1 1 Try.underlying28 hi hz0 hz1 hz2 rfl (by decide) (.slice A5 bt.length c5) bt.length (Lib.byteCells bt) rfl (hown5.alloc _) (w5.heap.size + 1) (some ⟨w5.heap.size, 0, none⟩) 1 1 (Lib.byteCells [1]) rfl (reads_new w5 5 [.int .u8 1]) (byteCells_ones _) (by unfold maxLen; omega) (by omega) (by have := hb5.size; simp; omega) (bt ++ [1]).length HL1.out.symm (Lib.byteCells (bt ++ [1])) (by rw [byteCells_append]) ?_; intro A6 c6 w6 hc6 hown6 hg6; have hb6 := grown_below (hb5.alloc hb5.size (.cells #[.int .u8 1] 5)) (hown5.alloc _) hg6 (by have := hb5.size; simp; omega))))
  obtain ⟨_, hbi6⟩ := BytesIn.of_own hown6
  have co := one_walk (bt ++ [1]) A6 c6 w6 (by rw [HL1.out]; omega) hbi6.1 hbi6.2.1 hbi6.2.2
  rw [HON.out, HL1.out] at co
  have HK := Lib.hid (HK.out.on hb6)
  with_reducible refine co.mono ?_
  rintro _ wa ⟨rfl, hba⟩
  have HK := Lib.hid ((HK.out.on hba).alloc (.cells #[.int .i64 0, .int .i64 0, .string ⟨#[]⟩, .slice none 0 0] 24))
  clear co hba hbi6 hb6 hb5 hown5 hown6 hg5 hg6 hrb hc5 hc6
  have kk := HK.out.now
  have cs := Lib.hid (same_walk (oneL zs) (oneL zs) kd nm s A m c kd' nm' s' A' m' c' _ kk.1.1.1.1.2 kk.1.2)
  have hx2 := kk.1.1.1.2
  have hx7 := kk.2
  have hse : sameB (oneL zs) (oneL zs) = true := sameB_iff.2 rfl
  rw [hse] at cs
  clear kk hse
  go_wp2_with (first
    | (refine wpList_store_fresh wa rfl 24 _ _ rfl _ #[.int .i64 0, .int .i64 0, .string ⟨#[]⟩, .slice none 0 0] _ rfl rfl rfl term_size (ones4 _ _ _ _ _ _) ?_)
    | (refine wpList_load_atG (by rfl) 24 _ rfl ⟨w2.heap.size, 0, none⟩ rfl [.int .i64 kd, .int .i64 nm, .string s, .slice A m c] _ (blk_cells hx2) Try.underlying24 rfl term_size ?_)
    | (refine wpList_load_atG (by rfl) 24 _ rfl ⟨w7.heap.size, 0, none⟩ rfl [.int .i64 kd', .int .i64 nm', .string s', .slice A' m' c'] _ (blk_cells hx7) Try.underlying24 rfl term_size ?_))
  refine cs.out.mono ?_
  rintro _ wb ⟨rfl, hbb⟩
  have HB := Lib.hid (HK.out.on hbb).now.1.1.1.1.1.1
  clear hbb cs HK hx2 hx7
  go_wp2_with fail
  go_ret
  exact ⟨rfl, HB.out⟩
end Go.Proofs.Ytnckjglohaaobaa
