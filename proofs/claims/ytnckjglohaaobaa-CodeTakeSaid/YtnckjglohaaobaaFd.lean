/- The statement CodeTake. No condition of its own. -/
import Derived.Test.YtnckjglohaaobaaFc
import Derived.Test.YtnckjglohaaobaaEl
import Derived.Test.YtnckjglohaaobaaEd
import Derived.Test.YtnckjglohaaobaaAh
import Derived.Laws.BitsAllLaws
import Derived.Deep.DeepCutAuto
import Derived.Deep.CutBlock
set_option linter.unusedVariables false
set_option linter.unusedSimpArgs false
namespace Go.Proofs.Ytnckjglohaaobaa
open Go.RowKit
theorem tmv_keeps2 {W : World} {lo : Nat} {t : Tm} {cs : List Value} (h : TmV W lo t cs) : Keeps W (fun X => TmV X 0 t cs) := fun W' hb => (h.below hb).low (Nat.zero_le _)
theorem own_set {w : World} {base g n cap k : Nat} {e : TypeId} {xs : List Value} (h : w.ownsRow base e 1 (.slice (some ⟨g, 0, none⟩) n cap) n xs) (hk : k < n) (u : Value) : (w.setCell ⟨g, k, none⟩ u).ownsRow base e 1 (.slice (some ⟨g, 0, none⟩) n cap) n (xs.set k u) := by
  refine ⟨by rw [List.length_set]; exact h.1, ?_⟩
  rcases h.2 with ⟨h1, _⟩ | ⟨g', cap', cur, h1, h2, h3, h4, h5, h6, h7⟩
  · cases h1
  · injection h1 with a b c
    injection a with a
    injection a with a
    subst a c
    refine .inr ⟨g, cap, cur.setIfInBounds k u, rfl, h2, heap_setCell_same w g k cur e u h3, h4, h5, by simpa using h6, ?_⟩
    rw [Array.toList_setIfInBounds, ← h7, List.take_set]
theorem own_cell {w : World} {base g n cap k : Nat} {e : TypeId} {l : List UInt8} (h : w.ownsRow base e 1 (.slice (some ⟨g, 0, none⟩) n cap) n (Lib.byteCells l)) (hk : k < l.length) : w.cell? ⟨g, k, none⟩ = some (.int .u8 ((l[k]'hk).toNat : Int)) ∧ w.frozen? ⟨g, k, none⟩ = false := by
  constructor
  · have := h.cells (g := g) rfl k (.int .u8 ((l[k]'hk).toNat : Int)) (by simp [Lib.byteCells, hk])
    rwa [add_zero_at] at this
  · rcases h.2 with ⟨h1, _⟩ | ⟨g', cap', cur, h1, h2, h3, _⟩
    · cases h1
    · injection h1 with a b c
      injection a with a
      injection a with a
      subst a
      exact Blk.frozen (t := e) (cs := cur) h3 k
theorem byteCells_set (l : List UInt8) (k : Nat) (b : UInt8) : (Lib.byteCells l).set k (.int .u8 (b.toNat : Int)) = Lib.byteCells (l.set k b) := by
  simp [Lib.byteCells, List.map_set]
/-- what Take answers, in one piece -/
def zeroT : Tm := .mk 0 0 ⟨#[]⟩ []
def takeTm (l : List UInt8) : Tm := match takeT l with | .error _ => zeroT | .ok (t, _) => t
def takeQ (l : List UInt8) : Int := match takeT l with | .error _ => 0 | .ok (_, q) => (q : Int)
def takeE (l : List UInt8) : Int := match takeT l with | .error c => c | .ok _ => 0
def oneTm (l : List UInt8) : Tm := match oneT l with | .error _ => zeroT | .ok t => t
def oneE (l : List UInt8) : Int := match oneT l with | .error c => c | .ok _ => 0
def TakeU (t : Tm) (q e : Int) (w : World) (en : Ending) (w' : World) : Prop :=
  ∃ (kd nm : Int) (s : ByteArray) (A : Option Addr) (m cp : Nat), en = .returned (.tuple #[.agg #[.int .i64 kd, .int .i64 nm, .string s, .slice A m cp], .int .i64 q, .int .i64 e]) ∧ TmV w' 0 t [.int .i64 kd, .int .i64 nm, .string s, .slice A m cp] ∧ Below w.heap.size w w'
def OneU (t : Tm) (e : Int) (w : World) (en : Ending) (w' : World) : Prop :=
  ∃ (kd nm : Int) (s : ByteArray) (A : Option Addr) (m cp : Nat), en = .returned (.tuple #[.agg #[.int .i64 kd, .int .i64 nm, .string s, .slice A m cp], .int .i64 e]) ∧ TmV w' 0 t [.int .i64 kd, .int .i64 nm, .string s, .slice A m cp] ∧ Below w.heap.size w w'
theorem TakeR.uni {l : List UInt8} {w : World} {e : Ending} {w' : World} (h : TakeR l (takeT l) w e w') : TakeU (takeTm l) (takeQ l) (takeE l) w e w' := by
  unfold takeTm takeQ takeE
  cases hT : takeT l with
  | error c =>
    rw [hT] at h
    obtain ⟨rfl, hb⟩ := h
    exact ⟨0, 0, ⟨#[]⟩, none, 0, 0, rfl, tm_leaf _ _ _ _ _, hb⟩
  | ok r =>
    obtain ⟨t, q⟩ := r
    rw [hT] at h
    obtain ⟨kd, nm, s, A, m, cp, rfl, ht, _, hb⟩ := h
    exact ⟨kd, nm, s, A, m, cp, rfl, ht.low (Nat.zero_le _), hb⟩
theorem OneR.uni {l : List UInt8} {w : World} {e : Ending} {w' : World} (h : OneR (oneT l) w e w') : OneU (oneTm l) (oneE l) w e w' := by
  unfold oneTm oneE
  cases hT : oneT l with
  | error c =>
    rw [hT] at h
    obtain ⟨rfl, hb⟩ := h
    exact ⟨0, 0, ⟨#[]⟩, none, 0, 0, rfl, tm_leaf _ _ _ _ _, hb⟩
  | ok t =>
    rw [hT] at h
    obtain ⟨kd, nm, s, A, m, cp, rfl, ht, hb⟩ := h
    exact ⟨kd, nm, s, A, m, cp, rfl, ht.low (Nat.zero_le _), hb⟩
set_option maxRecDepth 100000 in
set_option maxHeartbeats 8000000 in
theorem take_law (bs : List UInt8) (A1 : Option Addr) (c1 : Nat) (zs : List Int) (A2 : Option Addr) (c2 : Nat) (at_ yb : Int) (be : List UInt8) (A3 : Option Addr) (c3 : Nat) (w : World) (h1 : BytesIn w A1 c1 bs) (h2 : IntsIn w A2 c2 zs)
    (hat : -9223372036854775808 ≤ at_ ∧ at_ ≤ 9223372036854775807) (hby : 0 ≤ yb ∧ yb ≤ 255) (h3 : BytesIn w A3 c3 be) :
    Calls Try.prog 4 #[.slice A1 bs.length c1, .slice A2 zs.length c2, .int .i64 at_, .int .u8 yb, .slice A3 be.length c3] w fun e w' => e = .returned (.bool true) ∧ Below w.heap.size w w' := by
  obtain ⟨i0, hi, hz0, hz1, hz2⟩ := info_parts4 info_u8
  obtain ⟨hat1, hat2⟩ := hat
  obtain ⟨hy0, hy1⟩ := hby
  by_cases hlb : 600 < bs.length
  · have hl' : decide ((600 : Int) < (bs.length : Int)) = true := by simp; omega
    clear h1 h2 h3
    go_enter Try.func4, Try.ntmps4
    go_wp2_with fail
    refine (known_walk w).mono ?_
    rintro _ w1 ⟨rfl, hb1⟩
    go_wp2_with fail
    go_ret
    exact ⟨rfl, hb1⟩
  have hl' : decide ((600 : Int) < (bs.length : Int)) = false := by simp; omega
  by_cases hle : 50 < be.length
  · have hl2 : decide ((50 : Int) < (be.length : Int)) = true := by simp; omega
    clear h1 h2 h3
    go_enter Try.func4, Try.ntmps4
    go_wp2_with fail
    refine (known_walk w).mono ?_
    rintro _ w1 ⟨rfl, hb1⟩
    go_wp2_with fail
    go_ret
    exact ⟨rfl, hb1⟩
  have hl2 : decide ((50 : Int) < (be.length : Int)) = false := by simp; omega
  have hmay := oneL_may zs
  have HP : Hid (putT (oneL zs) = encT (oneL zs)) := put_of hmay
  have hpos := enc_pos (oneL zs)
  have hbd := enc_bound hmay
  generalize encT (oneL zs) = bt at HP hpos hbd
  obtain ⟨X, hX⟩ : ∃ X, bt ++ be = X := ⟨_, rfl⟩
  have hxl : bt.length + be.length = X.length := by rw [← hX, List.length_append]
  have hXB : Hid (Lib.byteCells bt ++ Lib.byteCells be = Lib.byteCells X) := by show _ = _; rw [← hX, byteCells_append]
  have hxp : 0 < X.length := by omega
  have hxm : X.length ≤ 100000 := by omega
  obtain ⟨r, er⟩ : ∃ r, at_.tmod (X.length : Int) = r := ⟨_, rfl⟩
  have hnp : (0 : Int) < (X.length : Int) := by omega
  have hr1 : -(X.length : Int) < r := by rw [← er]; exact Int.lt_tmod_of_pos _ hnp
  have hr2 : r < (X.length : Int) := by rw [← er]; exact Int.tmod_lt_of_pos _ hnp
  have hdv : ((X.length : Int) == 0) = false := by rw [beq_eq_false_iff_ne]; omega
  have hkk : ∃ k : Nat, k < X.length ∧ ((r < 0 ∧ r + (X.length : Int) = (k : Int)) ∨ (0 ≤ r ∧ r = (k : Int))) := by
    by_cases h0 : r < 0
    · exact ⟨(r + (X.length : Int)).toNat, by omega, .inl ⟨h0, by omega⟩⟩
    · exact ⟨r.toNat, by omega, .inr ⟨by omega, by omega⟩⟩
  obtain ⟨k, hk, hrk⟩ := hkk
  have HRK := Lib.hid hrk
  have HXL := Lib.hid hxl
  obtain ⟨yn, rfl⟩ := Int.eq_ofNat_of_zero_le hy0
  obtain ⟨x, hx⟩ : ∃ x : Nat, (X[k]'hk).toNat = x := ⟨_, rfl⟩
  have hx2 : x < 256 := by rw [← hx]; exact (X[k]'hk).toNat_lt
  have HX := Lib.hid hx
  obtain ⟨z, hz, hzl⟩ : ∃ z : Nat, bits .xor .u8 (x : Int) (yn : Int) = (z : Int) ∧ z < 256 := ⟨_, u8_xor_nat x yn hx2 (by omega), Nat.xor_lt_two_pow (n := 8) hx2 (by omega)⟩
  have HZ : Hid ((UInt8.ofNat z).toNat = z) := by show _ = _; simp; omega
  clear hmay hX hrk hx hxl
  go_enter Try.func4, Try.ntmps4
  go_wp2_with fail
  refine (known_walk w).mono ?_
  rintro _ w1 ⟨rfl, hb1⟩
  have co := Lib.hid (onel_walk zs A2 c2 w1 (h2.below hb1))
  have HK := Lib.hid (((below_keeps (Below.refl w.heap.size w)).and (h1.keeps.and h3.keeps)).on hb1)
  have H1 := Lib.hid h1
  clear h1 h2 h3 hb1
  go_wp2_with fail
  with_reducible refine co.out.mono ?_
  rintro _ w2 ⟨kd, nm, s, A, m, c, rfl, htv, hb2⟩
  have HK := Lib.hid (HK.out.on hb2)
  have cp := Lib.hid (rputm_walk (oneL zs) kd nm s A m c w2 (htv.low (Nat.zero_le _)))
  clear co htv hb2
  go_wp2_with fail
  with_reducible refine cp.out.mono ?_
  rintro _ w3 ⟨v, rfl, hown, hb3⟩
  rw [HP.out] at hown
  obtain ⟨g, cap, rfl, hgl, hgl2⟩ := hown.form hpos
  have hsz3 := HK.out.now.1.size
  have hs23 := hb3.size
  have HK := Lib.hid (HK.out.on hb3)
  have hrb := HK.out.now.2.2.2.2
  clear cp hb3 hgl2
  go_upto_if 45 with (at_builtin; (refine wpList_append_sl w3 rfl (.tmp 37) (.tmp 38) 28 rfl w2.heap.size 5 i0 (.int .u8 0) 1 1 Try.underlying28 hi hz0 hz1 hz2 rfl (by decide) (.slice (some ⟨g, 0, none⟩) bt.length cap) bt.length (Lib.byteCells bt) rfl hown w3.heap.size A3 be.length c3 (Lib.byteCells be) rfl hrb (byteCells_ones _) (by unfold maxLen; omega) (by omega) (by omega) X.length HXL.out (Lib.byteCells X) hXB.out ?_); intro A6 c6 w4 hc6 hown6 hg6)
  have hbw4 := Lib.hid (HK.out.now.1.grown hg6 HK.out.now.1.size (fun q e => (fun (e' : g = q) => by omega) (by simpa [Value.ownBlock] using e)))
  obtain ⟨g6, cap6, e6, hgl6, _⟩ := hown6.form hxp
  injection e6 with e6 _ e7
  subst e6 e7
  have hsz4 := hg6.size
  clear hg6 hown hrb HK
  go_cut [12] from 45 to 49 (fun v12 wx => v12 = .int .i64 (k : Int) ∧ w4 = wx)
  case first =>
    rcases HRK.out with ⟨hr0, erk⟩ | ⟨hr0, erk⟩
    · go_wp2_with fail
      go_meet
      exact ⟨rfl, rfl⟩
    · obtain rfl : r = (k : Int) := by omega
      go_wp2_with fail
      go_meet
      exact ⟨rfl, rfl⟩
  case rest =>
  obtain ⟨rfl, rfl⟩ := hcut
  obtain ⟨hc6, hf6⟩ := own_cell hown6 hk
  rw [HX.out] at hc6
  clear HRK er hr1 hr2 hdv
  have hs7 := own_set hown6 hk (.int .u8 (z : Int))
  rw [← HZ.out, byteCells_set] at hs7
  rw [HZ.out] at hs7
  have hb7 : Below w.heap.size w (w4.setCell ⟨g6, k, none⟩ (.int .u8 (z : Int))) := hbw4.out.setCell (by show w.heap.size ≤ g6; omega) _
  have hl7 : (X.set k (UInt8.ofNat z)).length = X.length := by simp
  generalize X.set k (UInt8.ofNat z) = Y at hs7 hl7
  rw [← hl7] at hs7
  obtain ⟨_, hby⟩ := BytesIn.of_own hs7
  have hx8 := Blk.new (w4.setCell ⟨g6, k, none⟩ (.int .u8 (z : Int))) 28 #[.slice A1 bs.length c1, .slice (some ⟨g6, 0, none⟩) X.length c6]
  have hsz7 : (w4.setCell ⟨g6, k, none⟩ (.int .u8 (z : Int))).heap.size = w4.heap.size := by simp [World.setCell]
  have HK := Lib.hid ((((below_keeps hb7).and ((H1.out.below hb7).keeps.and hby.keeps)).alloc (.cells #[.slice A1 bs.length c1, .slice (some ⟨g6, 0, none⟩) X.length c6] 28)).and hx8.keeps)
  clear hs7 hb7 hx8 hown6 hbw4 H1 hby
  go_wp2_with fail
  generalize hW8 : (w4.setCell ⟨g6, k, none⟩ (.int .u8 (z : Int))).alloc (.cells #[.slice A1 bs.length c1, .slice (some ⟨g6, 0, none⟩) X.length c6] 28) = w8 at HK ⊢
  rw [hsz7] at HK
  clear hW8 hsz7
  go_loopw [14] (fun iv wr => ∃ i : Nat, i ≤ 2 ∧ iv = .int .i64 i ∧ Hid (Below w8.heap.size w8 wr)) (fun iv _ => 2 - (intOf iv).toNat)
  case atStart => exact ⟨0, by omega, rfl, Below.refl _ _⟩
  case round =>
    obtain ⟨i, hi2, rfl, hb⟩ := hrel
    have HK := Lib.hid (HK.out.on hb.out)
    by_cases hlt : i < 2
    · obtain ⟨A, c, l, hl, hk8⟩ : ∃ (A : Option Addr) (c : Nat) (l : List UInt8), l.length ≤ 1000000 ∧ Keeps wr (fun X => X.cell? ⟨w4.heap.size, i, none⟩ = some (.slice A l.length c) ∧ BytesIn X A c l) := by
        rcases show i = 0 ∨ i = 1 by omega with rfl | rfl
        · exact ⟨A1, c1, bs, by omega, HK.out.mono fun X h => ⟨h.2.cell 0, h.1.2.1⟩⟩
        · exact ⟨some ⟨g6, 0, none⟩, c6, Y, by omega, HK.out.mono fun X h => ⟨by rw [hl7]; exact h.2.cell 1, h.1.2.2⟩⟩
      have HL := Lib.hid ((below_keeps hb.out).and hk8)
      clear hk8 hb HK
      have ct := Lib.hid ((take_walk l A c wr hl HL.out.now.2.2.1 HL.out.now.2.2.2.1 HL.out.now.2.2.2.2).mono fun _ _ h => h.uni)
      have hc0 := HL.out.now.2.1
      go_wp2_with fail
      with_reducible refine ct.out.mono ?_
      rintro _ x1 ⟨kd1, nm1, s1, B1, m1, d1, rfl, htv, hbn⟩
      have HL := Lib.hid ((HL.out.next hbn (tmv_keeps2 htv)).next ((Below.refl _ _).alloc (Nat.le_refl _) (.cells #[.int .i64 kd1, .int .i64 nm1, .string s1, .slice B1 m1 d1] 24)) (Blk.new x1 24 #[.int .i64 kd1, .int .i64 nm1, .string s1, .slice B1 m1 d1]).keeps)
      clear ct htv hbn hc0
      have hc0 := HL.out.now.1.1.2.1
      have ct := Lib.hid ((rtake_walk l A c _ hl HL.out.now.1.1.2.2.1 HL.out.now.1.1.2.2.2.1 HL.out.now.1.1.2.2.2.2).mono fun _ _ h => h.uni)
      go_wp2_with (refine wpList_store_fresh x1 rfl 24 _ _ rfl _ #[.int .i64 kd1, .int .i64 nm1, .string s1, .slice B1 m1 d1] _ rfl rfl rfl term_size (ones4 _ _ _ _ _ _) ?_)
      with_reducible refine ct.out.mono ?_
      rintro _ x2 ⟨kd2, nm2, s2, B2, m2, d2, rfl, htv, hbn⟩
      have HL := Lib.hid ((HL.out.next hbn (tmv_keeps2 htv)).next ((Below.refl _ _).alloc (Nat.le_refl _) (.cells #[.int .i64 kd2, .int .i64 nm2, .string s2, .slice B2 m2 d2] 24)) (Blk.new x2 24 #[.int .i64 kd2, .int .i64 nm2, .string s2, .slice B2 m2 d2]).keeps)
      clear ct htv hbn hc0
      have hc0 := HL.out.now.1.1.1.1.2.1
      have ct := Lib.hid ((one_walk l A c _ hl HL.out.now.1.1.1.1.2.2.1 HL.out.now.1.1.1.1.2.2.2.1 HL.out.now.1.1.1.1.2.2.2.2).mono fun _ _ h => h.uni)
      go_wp2_with (refine wpList_store_fresh x2 rfl 24 _ _ rfl _ #[.int .i64 kd2, .int .i64 nm2, .string s2, .slice B2 m2 d2] _ rfl rfl rfl term_size (ones4 _ _ _ _ _ _) ?_)
      with_reducible refine ct.out.mono ?_
      rintro _ x3 ⟨kd3, nm3, s3, B3, m3, d3, rfl, htv, hbn⟩
      have HL := Lib.hid ((HL.out.next hbn (tmv_keeps2 htv)).next ((Below.refl _ _).alloc (Nat.le_refl _) (.cells #[.int .i64 kd3, .int .i64 nm3, .string s3, .slice B3 m3 d3] 24)) (Blk.new x3 24 #[.int .i64 kd3, .int .i64 nm3, .string s3, .slice B3 m3 d3]).keeps)
      clear ct htv hbn hc0
      have hc0 := HL.out.now.1.1.1.1.1.1.2.1
      have ct := Lib.hid ((rone_walk l A c _ hl HL.out.now.1.1.1.1.1.1.2.2.1 HL.out.now.1.1.1.1.1.1.2.2.2.1 HL.out.now.1.1.1.1.1.1.2.2.2.2).mono fun _ _ h => h.uni)
      go_wp2_with (refine wpList_store_fresh x3 rfl 24 _ _ rfl _ #[.int .i64 kd3, .int .i64 nm3, .string s3, .slice B3 m3 d3] _ rfl rfl rfl term_size (ones4 _ _ _ _ _ _) ?_)
      with_reducible refine ct.out.mono ?_
      rintro _ x4 ⟨kd4, nm4, s4, B4, m4, d4, rfl, htv, hbn⟩
      have HL := Lib.hid ((HL.out.next hbn (tmv_keeps2 htv)).next ((Below.refl _ _).alloc (Nat.le_refl _) (.cells #[.int .i64 kd4, .int .i64 nm4, .string s4, .slice B4 m4 d4] 24)) (Blk.new x4 24 #[.int .i64 kd4, .int .i64 nm4, .string s4, .slice B4 m4 d4]).keeps)
      clear ct htv hbn hc0
      have cs := Lib.hid (fun X (h : Below (x4.alloc (.cells #[.int .i64 kd4, .int .i64 nm4, .string s4, .slice B4 m4 d4] 24)).heap.size (x4.alloc (.cells #[.int .i64 kd4, .int .i64 nm4, .string s4, .slice B4 m4 d4] 24)) X) => same_walk _ _ kd1 nm1 s1 B1 m1 d1 kd2 nm2 s2 B2 m2 d2 X (HL.out X h).1.1.1.1.1.1.1.2 (HL.out X h).1.1.1.1.1.2)
      have cs2 := Lib.hid (fun X (h : Below (x4.alloc (.cells #[.int .i64 kd4, .int .i64 nm4, .string s4, .slice B4 m4 d4] 24)).heap.size (x4.alloc (.cells #[.int .i64 kd4, .int .i64 nm4, .string s4, .slice B4 m4 d4] 24)) X) => same_walk _ _ kd3 nm3 s3 B3 m3 d3 kd4 nm4 s4 B4 m4 d4 X (HL.out X h).1.1.1.2 (HL.out X h).1.2)
      have e1 : sameB (takeTm l) (takeTm l) = true := sameB_iff.2 rfl
      have e2 : sameB (oneTm l) (oneTm l) = true := sameB_iff.2 rfl
      rw [e1] at cs
      rw [e2] at cs2
      clear e1 e2
      have hx1 := HL.out.now.1.1.1.1.1.1.2
      have hx2 := HL.out.now.1.1.1.1.2
      have hx3 := HL.out.now.1.1.2
      have hx4 := HL.out.now.2
      go_wp2_with (first
        | (refine wpList_store_fresh x4 rfl 24 _ _ rfl _ #[.int .i64 kd4, .int .i64 nm4, .string s4, .slice B4 m4 d4] _ rfl rfl rfl term_size (ones4 _ _ _ _ _ _) ?_)
        | (refine wpList_load_atG (by rfl) 24 _ rfl ⟨x1.heap.size, 0, none⟩ rfl [.int .i64 kd1, .int .i64 nm1, .string s1, .slice B1 m1 d1] _ (blk_cells hx1) Try.underlying24 rfl term_size ?_)
        | (refine wpList_load_atG (by rfl) 24 _ rfl ⟨x2.heap.size, 0, none⟩ rfl [.int .i64 kd2, .int .i64 nm2, .string s2, .slice B2 m2 d2] _ (blk_cells hx2) Try.underlying24 rfl term_size ?_))
      with_reducible refine (cs.out _ (Below.refl _ _)).mono ?_
      rintro _ x5 ⟨rfl, hb5⟩
      have CS2 := Lib.hid (cs2.out _ hb5)
      have HL := Lib.hid (HL.out.on hb5)
      replace hx3 := HL.out.now.1.1.2
      replace hx4 := HL.out.now.2
      clear cs cs2 hb5 hx1 hx2
      go_wp2_with (first
        | (refine wpList_load_atG (by rfl) 24 _ rfl ⟨x3.heap.size, 0, none⟩ rfl [.int .i64 kd3, .int .i64 nm3, .string s3, .slice B3 m3 d3] _ (blk_cells hx3) Try.underlying24 rfl term_size ?_)
        | (refine wpList_load_atG (by rfl) 24 _ rfl ⟨x4.heap.size, 0, none⟩ rfl [.int .i64 kd4, .int .i64 nm4, .string s4, .slice B4 m4 d4] _ (blk_cells hx4) Try.underlying24 rfl term_size ?_))
      with_reducible refine CS2.out.mono ?_
      rintro _ x6 ⟨rfl, hb6⟩
      have HB6 := Lib.hid (HL.out.on hb6).now.1.1.1.1.1.1.1.1.1
      clear HL CS2 hb6 hx3 hx4
      go_wp2_with fail
      exact ⟨⟨i + 1, by omega, by go_num, HB6⟩, by simp [intOf]; omega⟩
    · obtain rfl : i = 2 := by omega
      have HB := Lib.hid HK.out.now.1.1
      clear HK hb
      go_wp2_with fail
      go_ret
      exact ⟨rfl, HB.out⟩
end Go.Proofs.Ytnckjglohaaobaa
