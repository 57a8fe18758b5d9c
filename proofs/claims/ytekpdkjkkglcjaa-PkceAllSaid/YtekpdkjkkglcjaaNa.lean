/- Marks: Text and inner, of the program and of countersignref9. No condition of its own. Printed by wip/tools/genNa.py. -/
import Derived.Test.YtekpdkjkkglcjaaFc
import Derived.Test.YtekpdkjkkglcjaaEl
import Derived.Test.YtekpdkjkkglcjaaEg
import Derived.Test.YtekpdkjkkglcjaaDx
import Derived.Test.YtekpdkjkkglcjaaAh
import Derived.Test.YtekpdkjkkglcjaaMh
import Derived.Test.YtekpdkjkkglcjaaMu
set_option linter.unusedVariables false
set_option linter.unusedSimpArgs false
set_option maxRecDepth 20000
namespace Go.Proofs.Ytekpdkjkkglcjaa
open Go.RowKit
theorem tmv_keeps2 {W : World} {lo : Nat} {t : Tm} {cs : List Value} (h : TmV W lo t cs) : Keeps W (fun X => TmV X 0 t cs) := fun W' hb => (h.below hb).low (Nat.zero_le _)
def zeroT : Tm := .mk 0 0 ⟨#[]⟩ []
/-- a term's mark -/
def markT (t : Tm) : List UInt8 := if (putT t).length = 0 then [] else [126] ++ B64.enc (putT t) ++ [126]
theorem put_le (t : Tm) : (putT t).length ≤ 65728 := by
  rw [putT]
  split
  · rename_i h; exact enc_bound h
  · simp
theorem mark_le (t : Tm) : (markT t).length ≤ 131460 := by
  have h1 := put_le t
  have h2 := B64.enc_le (putT t)
  rw [markT]
  split
  · simp
  · simp; omega
def innerO (l : List UInt8) : Option Tm := match B64.dec l with | none => none | some b => match oneT b with | .error _ => none | .ok t => some t
def sideB (l : List UInt8) : Bool := !decide (l.length < 2) && ([126].isPrefixOf l && [126].isSuffixOf l)
def midL (l : List UInt8) : List UInt8 := (l.drop 1).take (l.length - 2)
def readO (l : List UInt8) : Option Tm := if sideB l = true then innerO (midL l) else none
/-- what Read and inner answer -/
def ReadU (o : Option Tm) (w : World) (en : Ending) (w' : World) : Prop :=
  ∃ (kd nm : Int) (s : ByteArray) (A : Option Addr) (m cp : Nat), en = .returned (.tuple #[.agg #[.int .i64 kd, .int .i64 nm, .string s, .slice A m cp], .bool o.isSome]) ∧ TmV w' w.heap.size (o.getD zeroT) [.int .i64 kd, .int .i64 nm, .string s, .slice A m cp] ∧ Below w.heap.size w w'
theorem TmV.kind_num {w : World} {lo : Nat} {t : Tm} {kd nm : Int} {s : ByteArray} {A : Option Addr} {m c : Nat} (h : TmV w lo t [.int .i64 kd, .int .i64 nm, .string s, .slice A m c]) : kd = t.kind ∧ nm = t.num := by
  cases t
  rw [TmV] at h
  obtain ⟨A', c', vs, e, _⟩ := h
  simp only [cells4] at e
  injection e with e1 e
  injection e with e2 e
  injection e1 with _ e1
  injection e2 with _ e2
  exact ⟨e1, e2⟩
set_option maxHeartbeats 2000000 in
theorem text_walk (t : Tm) (kind n : Int) (s : ByteArray) (A : Option Addr) (m c : Nat) (w : World) (ht : TmV w 0 t [.int .i64 kind, .int .i64 n, .string s, .slice A m c]) :
    Calls Try.prog 35 #[.agg #[.int .i64 kind, .int .i64 n, .string s, .slice A m c]] w fun e w' => e = .returned (.string ⟨(markT t).toArray⟩) ∧ Below w.heap.size w w' := by
  have hb1 := (Below.refl w.heap.size w).alloc (Nat.le_refl _) (.cells #[.int .i64 kind, .int .i64 n, .string s, .slice A m c] 35)
  have hbx := Blk.new w 35 #[.int .i64 kind, .int .i64 n, .string s, .slice A m c]
  have cp := Lib.hid (put_walk t kind n s A m c _ (ht.below hb1))
  have HB1 := Lib.hid hb1
  have HBX := Lib.hid hbx
  have hle := put_le t
  have hel := B64.enc_le (putT t)
  have HM : Hid (markT t = if (putT t).length = 0 then [] else [126] ++ B64.enc (putT t) ++ [126]) := rfl
  generalize putT t = b at cp hle hel HM
  clear hb1
  go_enter Try.func35, Try.ntmps35
  go_wp2_with (refine wpList_load_at rfl 35 _ rfl ⟨w.heap.size, 0, none⟩ rfl [.int .i64 kind, .int .i64 n, .string s, .slice A m c] _ (blk_cells hbx) Try.underlying35 rfl term_size ?_)
  refine cp.out.mono ?_
  rintro _ w1 ⟨v, rfl, hown, hb2⟩
  obtain ⟨A1, c1, rfl, hc1, hr1⟩ := own_reads hown (Nat.le_refl _)
  have HB2 := Lib.hid (below_next HB1.out hb2)
  by_cases h0 : b.length = 0
  · have hz : ((b.length : Int) == 0) = true := by rw [beq_iff_eq]; omega
    have hv : Hid (markT t = []) := by show _ = _; rw [HM.out, if_pos h0]
    clear hown hb2 cp hr1
    go_wp2_with fail
    go_ret
    rw [hv.out]
    exact ⟨rfl, HB2.out⟩
  · have hz : ((b.length : Int) == 0) = false := by rw [beq_eq_false_iff_ne]; omega
    have hv : Hid (markT t = [126] ++ B64.enc b ++ [126]) := by show _ = _; rw [HM.out, if_neg h0]
    have ce := Lib.hid (enc_walk A1 b.length c1 b w1 hr1 (by omega) (by omega))
    have hadd := fun w => run_string_add_lists (P := Try.prog) w [126] (B64.enc b) (by decide) (by omega)
    have hadd2 := fun w => run_string_add_lists (P := Try.prog) w ([126] ++ B64.enc b) [126] (by simp; omega) (by decide)
    clear hown hb2 cp hr1 HM
    go_wp2_with fail
    refine ce.out.mono ?_
    rintro _ w2 ⟨rfl, hb3⟩
    have HB3 := Lib.hid (below_next HB2.out hb3)
    clear hb3 ce
    go_wp2_with fail
    go_ret
    rw [hv.out]
    exact ⟨rfl, HB3.out⟩
set_option maxHeartbeats 2000000 in
theorem rtext_walk (t : Tm) (kind n : Int) (s : ByteArray) (A : Option Addr) (m c : Nat) (w : World) (ht : TmV w 0 t [.int .i64 kind, .int .i64 n, .string s, .slice A m c]) :
    Calls Try.prog 10 #[.agg #[.int .i64 kind, .int .i64 n, .string s, .slice A m c]] w fun e w' => e = .returned (.string ⟨(markT t).toArray⟩) ∧ Below w.heap.size w w' := by
  have hb1 := (Below.refl w.heap.size w).alloc (Nat.le_refl _) (.cells #[.int .i64 kind, .int .i64 n, .string s, .slice A m c] 35)
  have hbx := Blk.new w 35 #[.int .i64 kind, .int .i64 n, .string s, .slice A m c]
  have cp := Lib.hid (rputm_walk t kind n s A m c _ (ht.below hb1))
  have HB1 := Lib.hid hb1
  have HBX := Lib.hid hbx
  have hle := put_le t
  have hel := B64.enc_le (putT t)
  have HM : Hid (markT t = if (putT t).length = 0 then [] else [126] ++ B64.enc (putT t) ++ [126]) := rfl
  generalize putT t = b at cp hle hel HM
  clear hb1
  go_enter Try.func10, Try.ntmps10
  go_wp2_with (refine wpList_load_at rfl 35 _ rfl ⟨w.heap.size, 0, none⟩ rfl [.int .i64 kind, .int .i64 n, .string s, .slice A m c] _ (blk_cells hbx) Try.underlying35 rfl term_size ?_)
  refine cp.out.mono ?_
  rintro _ w1 ⟨v, rfl, hown, hb2⟩
  obtain ⟨A1, c1, rfl, hc1, hr1⟩ := own_reads hown (Nat.le_refl _)
  have HB2 := Lib.hid (below_next HB1.out hb2)
  by_cases h0 : b.length = 0
  · have hz : ((b.length : Int) == 0) = true := by rw [beq_iff_eq]; omega
    have hv : Hid (markT t = []) := by show _ = _; rw [HM.out, if_pos h0]
    clear hown hb2 cp hr1
    go_wp2_with fail
    go_ret
    rw [hv.out]
    exact ⟨rfl, HB2.out⟩
  · have hz : ((b.length : Int) == 0) = false := by rw [beq_eq_false_iff_ne]; omega
    have hv : Hid (markT t = [126] ++ B64.enc b ++ [126]) := by show _ = _; rw [HM.out, if_neg h0]
    have ce := Lib.hid (renc_walk A1 b.length c1 b w1 hr1 (by omega))
    have hadd := fun w => run_string_add_lists (P := Try.prog) w [126] (B64.enc b) (by decide) (by omega)
    have hadd2 := fun w => run_string_add_lists (P := Try.prog) w ([126] ++ B64.enc b) [126] (by simp; omega) (by decide)
    clear hown hb2 cp hr1 HM
    go_wp2_with fail
    refine ce.out.mono ?_
    rintro _ w2 ⟨rfl, hb3⟩
    have HB3 := Lib.hid (below_next HB2.out hb3)
    clear hb3 ce
    go_wp2_with fail
    go_ret
    rw [hv.out]
    exact ⟨rfl, HB3.out⟩
set_option maxHeartbeats 4000000 in
theorem inner_walk (s : ByteArray) (l : List UInt8) (hs : s.data.toList = l) (w : World) (hm : s.size ≤ 1000000) :
    Calls Try.prog 38 #[.string s] w (ReadU (innerO l) w) := by
  have hb1 := (Below.refl w.heap.size w).alloc (Nat.le_refl _) (.cells #[.int .i64 0, .int .i64 0, .string ⟨#[]⟩, .slice none 0 0] 35)
  have HBR := Lib.hid (Blk.new w 35 #[.int .i64 0, .int .i64 0, .string ⟨#[]⟩, .slice none 0 0])
  have HB1 := Lib.hid hb1
  have hsz : l.length = s.size := by rw [← hs, Lib.size_eq]
  have cd := dec_walk s l hs (w.alloc (.cells #[.int .i64 0, .int .i64 0, .string ⟨#[]⟩, .slice none 0 0] 35)) hm
  cases hD : B64.dec l with
  | none =>
    have hv : Hid (innerO l = none) := by show _ = _; rw [innerO, hD]
    have cd2 : Calls Try.prog 47 #[.string s] (w.alloc (.cells #[.int .i64 0, .int .i64 0, .string ⟨#[]⟩, .slice none 0 0] 35)) fun e w' => e = .returned (.tuple #[.slice none 0 0, .int .i64 3]) ∧ Below (w.alloc (.cells #[.int .i64 0, .int .i64 0, .string ⟨#[]⟩, .slice none 0 0] 35)).heap.size (w.alloc (.cells #[.int .i64 0, .int .i64 0, .string ⟨#[]⟩, .slice none 0 0] 35)) w' := by
      refine cd.mono ?_
      rintro e w' ⟨hb, ⟨b, v, h, _⟩ | ⟨_, he⟩⟩
      · skip
        rw [hD] at h; cases h
      · exact ⟨he, hb⟩
    have CD := Lib.hid cd2
    clear cd cd2 hD hb1
    go_enter Try.func38, Try.ntmps38
    go_wp2_with fail
    refine CD.out.mono ?_
    rintro _ w1 ⟨rfl, hb2⟩
    have hbq := HBR.out.below hb2 (by simp)
    have HBW := Lib.hid (below_next HB1.out hb2)
    clear hb2 CD
    go_wp2_with (refine wpList_store_blk rfl 35 _ _ rfl w.heap.size _ #[.int .i64 0, .int .i64 0, .string ⟨#[]⟩, .slice none 0 0] _ rfl rfl hbq rfl term_size (ones4 _ _ _ _ _ _) ?_)
    refine bodyPost_ret (results_c_t Try.results38 _ _ w.heap.size _ _ _ _ rfl hbq.setRow) rfl ?_
    rw [hv.out]
    exact ⟨0, 0, ⟨#[]⟩, none, 0, 0, rfl, tm_leaf _ _ _ _ _, below_setRow HBW.out (Nat.le_refl _) _⟩
  | some b =>
    have hbl : b.length ≤ 1000000 := by
      have h1 := B64.enc_dec _ l b (Nat.le_refl _) hD
      have h2 := B64.enc_length b
      rw [h1] at h2
      omega
    have cd2 : Calls Try.prog 47 #[.string s] (w.alloc (.cells #[.int .i64 0, .int .i64 0, .string ⟨#[]⟩, .slice none 0 0] 35)) fun e w' => ∃ v, e = .returned (.tuple #[v, .int .i64 0]) ∧ w'.ownsRow (w.alloc (.cells #[.int .i64 0, .int .i64 0, .string ⟨#[]⟩, .slice none 0 0] 35)).heap.size 5 1 v b.length (Lib.byteCells b) ∧ Below (w.alloc (.cells #[.int .i64 0, .int .i64 0, .string ⟨#[]⟩, .slice none 0 0] 35)).heap.size (w.alloc (.cells #[.int .i64 0, .int .i64 0, .string ⟨#[]⟩, .slice none 0 0] 35)) w' := by
      refine cd.mono ?_
      rintro e w' ⟨hb, ⟨b', v, h, he, ho⟩ | ⟨h, _⟩⟩
      · skip
        rw [hD] at h
        injection h with h
        subst h
        exact ⟨v, he, ho, hb⟩
      · skip
        rw [hD] at h; cases h
    have CD := Lib.hid cd2
    have hv : Hid (innerO l = match oneT b with | .error _ => none | .ok t => some t) := by show _ = _; rw [innerO, hD]
    clear cd cd2 hD hb1
    go_enter Try.func38, Try.ntmps38
    go_wp2_with fail
    refine CD.out.mono ?_
    rintro _ w1 ⟨v, rfl, hown, hb2⟩
    obtain ⟨A1, c1, rfl, hc1, hr1⟩ := own_reads hown (Nat.le_refl _)
    have co := one_walk b A1 c1 w1 hbl hc1 (own_cap hown) hr1
    have hbq := HBR.out.below hb2 (by simp)
    have HBW := Lib.hid (below_next HB1.out hb2)
    clear hb2 CD hown hr1
    cases hO : oneT b with
    | error k =>
      have hk := oneT_err hO
      have hk0 : (k == 0) = false := by rw [beq_eq_false_iff_ne]; omega
      rw [hO] at co hv
      have CO := Lib.hid co
      clear co hO hk
      go_wp2_with fail
      with_reducible refine CO.out.mono ?_
      rintro _ w2 ⟨rfl, hb3⟩
      have HB3 := Lib.hid ((below_next HBW.out hb3).alloc (below_next HBW.out hb3).size (.cells #[.int .i64 0, .int .i64 0, .string ⟨#[]⟩, .slice none 0 0] 35))
      have hbq2 := (hbq.below hb3 hbq.lt).alloc (.cells #[.int .i64 0, .int .i64 0, .string ⟨#[]⟩, .slice none 0 0] 35)
      have hbt := Blk.new w2 35 #[.int .i64 0, .int .i64 0, .string ⟨#[]⟩, .slice none 0 0]
      clear hb3 CO hbq
      go_wp2_with (first
        | (refine wpList_store_fresh w2 rfl 35 _ _ rfl _ #[.int .i64 0, .int .i64 0, .string ⟨#[]⟩, .slice none 0 0] _ rfl rfl rfl term_size (ones4 _ _ _ _ _ _) ?_)
        | (refine wpList_load_at rfl 35 _ rfl ⟨w2.heap.size, 0, none⟩ rfl [.int .i64 0, .int .i64 0, .string ⟨#[]⟩, .slice none 0 0] _ (blk_cells hbt) Try.underlying35 rfl term_size ?_)
        | (refine wpList_store_blk rfl 35 _ _ rfl w.heap.size _ #[.int .i64 0, .int .i64 0, .string ⟨#[]⟩, .slice none 0 0] _ rfl rfl hbq2 rfl term_size (ones4 _ _ _ _ _ _) ?_))
      refine bodyPost_ret (results_c_t Try.results38 _ _ w.heap.size _ _ _ _ rfl hbq2.setRow) rfl ?_
      rw [hv.out]
      exact ⟨0, 0, ⟨#[]⟩, none, 0, 0, rfl, tm_leaf _ _ _ _ _, below_setRow HB3.out (Nat.le_refl _) _⟩
    | ok t =>
      rw [hO] at co hv
      have CO := Lib.hid co
      clear co hO
      go_wp2_with fail
      with_reducible refine CO.out.mono ?_
      rintro _ w2 ⟨kd, nm, s2, A2, m2, c2, rfl, htv, hb3⟩
      have HB3 := Lib.hid ((below_next HBW.out hb3).alloc (below_next HBW.out hb3).size (.cells #[.int .i64 kd, .int .i64 nm, .string s2, .slice A2 m2 c2] 35))
      have hbq2 := (hbq.below hb3 hbq.lt).alloc (.cells #[.int .i64 kd, .int .i64 nm, .string s2, .slice A2 m2 c2] 35)
      have hbt := Blk.new w2 35 #[.int .i64 kd, .int .i64 nm, .string s2, .slice A2 m2 c2]
      have hlt : w.heap.size < w1.heap.size := hbq.lt
      have HTW := Lib.hid (htv.grown (only_alloc (only_refl w2 none) (.cells #[.int .i64 kd, .int .i64 nm, .string s2, .slice A2 m2 c2] 35)) (fun q e => by cases e))
      clear hb3 CO hbq htv
      go_wp2_with (first
        | (refine wpList_store_fresh w2 rfl 35 _ _ rfl _ #[.int .i64 kd, .int .i64 nm, .string s2, .slice A2 m2 c2] _ rfl rfl rfl term_size (ones4 _ _ _ _ _ _) ?_)
        | (refine wpList_load_at rfl 35 _ rfl ⟨w2.heap.size, 0, none⟩ rfl [.int .i64 kd, .int .i64 nm, .string s2, .slice A2 m2 c2] _ (blk_cells hbt) Try.underlying35 rfl term_size ?_)
        | (refine wpList_store_blk rfl 35 _ _ rfl w.heap.size _ #[.int .i64 kd, .int .i64 nm, .string s2, .slice A2 m2 c2] _ rfl rfl hbq2 rfl term_size (ones4 _ _ _ _ _ _) ?_))
      refine bodyPost_ret (results_c_t Try.results38 _ _ w.heap.size _ _ _ _ rfl hbq2.setRow) rfl ?_
      rw [hv.out]
      exact ⟨kd, nm, s2, A2, m2, c2, rfl, (HTW.out.grown (setRow_only _ w.heap.size _) (fun q e => by injection e with e; omega)).low (by omega), below_setRow HB3.out (Nat.le_refl _) _⟩
set_option maxHeartbeats 4000000 in
theorem rinner_walk (s : ByteArray) (l : List UInt8) (hs : s.data.toList = l) (w : World) (hm : s.size ≤ 1000000) :
    Calls Try.prog 39 #[.string s] w (ReadU (innerO l) w) := by
  have hb1 := (Below.refl w.heap.size w).alloc (Nat.le_refl _) (.cells #[.int .i64 0, .int .i64 0, .string ⟨#[]⟩, .slice none 0 0] 35)
  have HBR := Lib.hid (Blk.new w 35 #[.int .i64 0, .int .i64 0, .string ⟨#[]⟩, .slice none 0 0])
  have HB1 := Lib.hid hb1
  have hsz : l.length = s.size := by rw [← hs, Lib.size_eq]
  have cd := rdec_walk s l hs (w.alloc (.cells #[.int .i64 0, .int .i64 0, .string ⟨#[]⟩, .slice none 0 0] 35)) hm
  cases hD : B64.dec l with
  | none =>
    have hv : Hid (innerO l = none) := by show _ = _; rw [innerO, hD]
    have cd2 : Calls Try.prog 49 #[.string s] (w.alloc (.cells #[.int .i64 0, .int .i64 0, .string ⟨#[]⟩, .slice none 0 0] 35)) fun e w' => e = .returned (.tuple #[.slice none 0 0, .int .i64 3]) ∧ Below (w.alloc (.cells #[.int .i64 0, .int .i64 0, .string ⟨#[]⟩, .slice none 0 0] 35)).heap.size (w.alloc (.cells #[.int .i64 0, .int .i64 0, .string ⟨#[]⟩, .slice none 0 0] 35)) w' := by
      refine cd.mono ?_
      rintro e w' ⟨hb, ⟨b, v, h, _⟩ | ⟨_, he⟩⟩
      · rw [B64.rdec_eq] at h
        rw [hD] at h; cases h
      · exact ⟨he, hb⟩
    have CD := Lib.hid cd2
    clear cd cd2 hD hb1
    go_enter Try.func39, Try.ntmps39
    go_wp2_with fail
    refine CD.out.mono ?_
    rintro _ w1 ⟨rfl, hb2⟩
    have hbq := HBR.out.below hb2 (by simp)
    have HBW := Lib.hid (below_next HB1.out hb2)
    clear hb2 CD
    go_wp2_with (refine wpList_store_blk rfl 35 _ _ rfl w.heap.size _ #[.int .i64 0, .int .i64 0, .string ⟨#[]⟩, .slice none 0 0] _ rfl rfl hbq rfl term_size (ones4 _ _ _ _ _ _) ?_)
    refine bodyPost_ret (results_c_t Try.results39 _ _ w.heap.size _ _ _ _ rfl hbq.setRow) rfl ?_
    rw [hv.out]
    exact ⟨0, 0, ⟨#[]⟩, none, 0, 0, rfl, tm_leaf _ _ _ _ _, below_setRow HBW.out (Nat.le_refl _) _⟩
  | some b =>
    have hbl : b.length ≤ 1000000 := by
      have h1 := B64.enc_dec _ l b (Nat.le_refl _) hD
      have h2 := B64.enc_length b
      rw [h1] at h2
      omega
    have cd2 : Calls Try.prog 49 #[.string s] (w.alloc (.cells #[.int .i64 0, .int .i64 0, .string ⟨#[]⟩, .slice none 0 0] 35)) fun e w' => ∃ v, e = .returned (.tuple #[v, .int .i64 0]) ∧ w'.ownsRow (w.alloc (.cells #[.int .i64 0, .int .i64 0, .string ⟨#[]⟩, .slice none 0 0] 35)).heap.size 5 1 v b.length (Lib.byteCells b) ∧ Below (w.alloc (.cells #[.int .i64 0, .int .i64 0, .string ⟨#[]⟩, .slice none 0 0] 35)).heap.size (w.alloc (.cells #[.int .i64 0, .int .i64 0, .string ⟨#[]⟩, .slice none 0 0] 35)) w' := by
      refine cd.mono ?_
      rintro e w' ⟨hb, ⟨b', v, h, he, ho⟩ | ⟨h, _⟩⟩
      · rw [B64.rdec_eq] at h
        rw [hD] at h
        injection h with h
        subst h
        exact ⟨v, he, ho, hb⟩
      · rw [B64.rdec_eq] at h
        rw [hD] at h; cases h
    have CD := Lib.hid cd2
    have hv : Hid (innerO l = match oneT b with | .error _ => none | .ok t => some t) := by show _ = _; rw [innerO, hD]
    clear cd cd2 hD hb1
    go_enter Try.func39, Try.ntmps39
    go_wp2_with fail
    refine CD.out.mono ?_
    rintro _ w1 ⟨v, rfl, hown, hb2⟩
    obtain ⟨A1, c1, rfl, hc1, hr1⟩ := own_reads hown (Nat.le_refl _)
    have co := rone_walk b A1 c1 w1 hbl hc1 (own_cap hown) hr1
    have hbq := HBR.out.below hb2 (by simp)
    have HBW := Lib.hid (below_next HB1.out hb2)
    clear hb2 CD hown hr1
    cases hO : oneT b with
    | error k =>
      have hk := oneT_err hO
      have hk0 : (k == 0) = false := by rw [beq_eq_false_iff_ne]; omega
      rw [hO] at co hv
      have CO := Lib.hid co
      clear co hO hk
      go_wp2_with fail
      with_reducible refine CO.out.mono ?_
      rintro _ w2 ⟨rfl, hb3⟩
      have HB3 := Lib.hid ((below_next HBW.out hb3).alloc (below_next HBW.out hb3).size (.cells #[.int .i64 0, .int .i64 0, .string ⟨#[]⟩, .slice none 0 0] 35))
      have hbq2 := (hbq.below hb3 hbq.lt).alloc (.cells #[.int .i64 0, .int .i64 0, .string ⟨#[]⟩, .slice none 0 0] 35)
      have hbt := Blk.new w2 35 #[.int .i64 0, .int .i64 0, .string ⟨#[]⟩, .slice none 0 0]
      clear hb3 CO hbq
      go_wp2_with (first
        | (refine wpList_store_fresh w2 rfl 35 _ _ rfl _ #[.int .i64 0, .int .i64 0, .string ⟨#[]⟩, .slice none 0 0] _ rfl rfl rfl term_size (ones4 _ _ _ _ _ _) ?_)
        | (refine wpList_load_at rfl 35 _ rfl ⟨w2.heap.size, 0, none⟩ rfl [.int .i64 0, .int .i64 0, .string ⟨#[]⟩, .slice none 0 0] _ (blk_cells hbt) Try.underlying35 rfl term_size ?_)
        | (refine wpList_store_blk rfl 35 _ _ rfl w.heap.size _ #[.int .i64 0, .int .i64 0, .string ⟨#[]⟩, .slice none 0 0] _ rfl rfl hbq2 rfl term_size (ones4 _ _ _ _ _ _) ?_))
      refine bodyPost_ret (results_c_t Try.results39 _ _ w.heap.size _ _ _ _ rfl hbq2.setRow) rfl ?_
      rw [hv.out]
      exact ⟨0, 0, ⟨#[]⟩, none, 0, 0, rfl, tm_leaf _ _ _ _ _, below_setRow HB3.out (Nat.le_refl _) _⟩
    | ok t =>
      rw [hO] at co hv
      have CO := Lib.hid co
      clear co hO
      go_wp2_with fail
      with_reducible refine CO.out.mono ?_
      rintro _ w2 ⟨kd, nm, s2, A2, m2, c2, rfl, htv, hb3⟩
      have HB3 := Lib.hid ((below_next HBW.out hb3).alloc (below_next HBW.out hb3).size (.cells #[.int .i64 kd, .int .i64 nm, .string s2, .slice A2 m2 c2] 35))
      have hbq2 := (hbq.below hb3 hbq.lt).alloc (.cells #[.int .i64 kd, .int .i64 nm, .string s2, .slice A2 m2 c2] 35)
      have hbt := Blk.new w2 35 #[.int .i64 kd, .int .i64 nm, .string s2, .slice A2 m2 c2]
      have hlt : w.heap.size < w1.heap.size := hbq.lt
      have HTW := Lib.hid (htv.grown (only_alloc (only_refl w2 none) (.cells #[.int .i64 kd, .int .i64 nm, .string s2, .slice A2 m2 c2] 35)) (fun q e => by cases e))
      clear hb3 CO hbq htv
      go_wp2_with (first
        | (refine wpList_store_fresh w2 rfl 35 _ _ rfl _ #[.int .i64 kd, .int .i64 nm, .string s2, .slice A2 m2 c2] _ rfl rfl rfl term_size (ones4 _ _ _ _ _ _) ?_)
        | (refine wpList_load_at rfl 35 _ rfl ⟨w2.heap.size, 0, none⟩ rfl [.int .i64 kd, .int .i64 nm, .string s2, .slice A2 m2 c2] _ (blk_cells hbt) Try.underlying35 rfl term_size ?_)
        | (refine wpList_store_blk rfl 35 _ _ rfl w.heap.size _ #[.int .i64 kd, .int .i64 nm, .string s2, .slice A2 m2 c2] _ rfl rfl hbq2 rfl term_size (ones4 _ _ _ _ _ _) ?_))
      refine bodyPost_ret (results_c_t Try.results39 _ _ w.heap.size _ _ _ _ rfl hbq2.setRow) rfl ?_
      rw [hv.out]
      exact ⟨kd, nm, s2, A2, m2, c2, rfl, (HTW.out.grown (setRow_only _ w.heap.size _) (fun q e => by injection e with e; omega)).low (by omega), below_setRow HB3.out (Nat.le_refl _) _⟩
end Go.Proofs.Ytekpdkjkkglcjaa
