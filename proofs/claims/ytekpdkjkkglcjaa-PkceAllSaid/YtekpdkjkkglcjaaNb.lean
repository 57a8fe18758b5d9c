/- Marks: Read and Number, of the program and of countersignref9; Key. No condition of its own. Printed by wip/tools/genNb.py. -/
import Derived.Test.YtekpdkjkkglcjaaNa
set_option linter.unusedVariables false
set_option linter.unusedSimpArgs false
set_option maxRecDepth 20000
namespace Go.Proofs.Ytekpdkjkkglcjaa
open Go.RowKit
theorem pre_one (l : List UInt8) (h : 1 ≤ l.length) : [126].isPrefixOf l = (((l.getD 0 0).toNat : Int) == 126) := by
  cases l with
  | nil => simp at h
  | cons c l =>
    rw [Bool.eq_iff_iff]
    simp [List.isPrefixOf]
    constructor
    · intro e; subst e; rfl
    · intro e; exact (UInt8.toNat_inj.1 (by simp; omega)).symm
theorem suf_one (l : List UInt8) (h : 1 ≤ l.length) : [126].isSuffixOf l = (((l.getD (l.length - 1) 0).toNat : Int) == 126) := by
  rw [List.isSuffixOf]
  have := pre_one l.reverse (by simpa using h)
  rw [List.reverse_singleton, this]
  congr 3
  rw [List.getD, List.getD, List.getElem?_reverse (by omega)]
  simp
theorem str_at9 {s : ByteArray} {l : List UInt8} (hs : s.data.toList = l) {k : Nat} (hk : k < s.size) : (s[k]'hk).toNat = (l.getD k 0).toNat := by
  subst hs
  rw [List.getD_eq_getElem?_getD, List.getElem?_eq_getElem (by simpa using hk)]
  rfl
theorem mid_list (s : ByteArray) (l : List UInt8) (hs : s.data.toList = l) : (s.extract 1 (s.size - 1)).data.toList = midL l := by
  show _ = (l.drop 1).take (l.length - 2)
  have hsz : l.length = s.size := by rw [← hs, Lib.size_eq]
  rw [Lib.extract_data, hs]
  simp [List.take_drop, hsz]
  congr 1
  omega
set_option maxHeartbeats 4000000 in
theorem read_walk (s : ByteArray) (l : List UInt8) (hs : s.data.toList = l) (w : World) (hm : s.size ≤ 1000000) :
    Calls Try.prog 28 #[.string s] w (ReadU (readO l) w) := by
  have hb1 := (Below.refl w.heap.size w).alloc (Nat.le_refl _) (.cells #[.int .i64 0, .int .i64 0, .string ⟨#[]⟩, .slice none 0 0] 35)
  have hbq := Blk.new w 35 #[.int .i64 0, .int .i64 0, .string ⟨#[]⟩, .slice none 0 0]
  have HB1 := Lib.hid hb1
  have hsz : l.length = s.size := by rw [← hs, Lib.size_eq]
  by_cases h2 : s.size < 2
  · have hv : Hid (readO l = none) := by show _ = _; rw [readO, sideB, decide_eq_true (by omega)]; rfl
    have hd : decide ((s.size : Int) < 2) = true := by simp; omega
    clear hb1 hsz
    go_enter Try.func28, Try.ntmps28
    go_wp2_with (refine wpList_store_blk rfl 35 _ _ rfl w.heap.size _ #[.int .i64 0, .int .i64 0, .string ⟨#[]⟩, .slice none 0 0] _ rfl rfl hbq rfl term_size (ones4 _ _ _ _ _ _) ?_)
    refine bodyPost_ret (results_c_t Try.results28 _ _ w.heap.size _ _ _ _ rfl hbq.setRow) rfl ?_
    rw [hv.out]
    exact ⟨0, 0, ⟨#[]⟩, none, 0, 0, rfl, tm_leaf _ _ _ _ _, below_setRow HB1.out (Nat.le_refl _) _⟩
  have hd : decide ((s.size : Int) < 2) = false := by simp; omega
  have h2' : 2 ≤ s.size := by omega
  have hd3 : decide (l.length < 2) = false := by simp; omega
  have cp := Lib.hid (Try.strings_HasPrefix s ⟨#[126]⟩ (w.alloc (.cells #[.int .i64 0, .int .i64 0, .string ⟨#[]⟩, .slice none 0 0] 35)))
  have cs := Lib.hid (Try.strings_HasSuffix s ⟨#[126]⟩ (w.alloc (.cells #[.int .i64 0, .int .i64 0, .string ⟨#[]⟩, .slice none 0 0] 35)) (by omega))
  cases e1 : [126].isPrefixOf l
  · have hv : Hid (readO l = none) := by show _ = _; rw [readO, sideB, e1, hd3]; rfl
    have e1' : Lib.hasPrefix s.data.toList (ByteArray.mk #[126]).data.toList = [126].isPrefixOf l := by rw [hs]; rfl
    rw [e1', e1] at cp
    clear hb1 hsz hd3
    go_enter Try.func28, Try.ntmps28
    go_wp2_with fail
    with_reducible refine cp.out.mono ?_
    rintro _ w1 ⟨rfl, rfl⟩
    go_wp2_with (refine wpList_store_blk rfl 35 _ _ rfl w.heap.size _ #[.int .i64 0, .int .i64 0, .string ⟨#[]⟩, .slice none 0 0] _ rfl rfl hbq rfl term_size (ones4 _ _ _ _ _ _) ?_)
    refine bodyPost_ret (results_c_t Try.results28 _ _ w.heap.size _ _ _ _ rfl hbq.setRow) rfl ?_
    rw [hv.out]
    exact ⟨0, 0, ⟨#[]⟩, none, 0, 0, rfl, tm_leaf _ _ _ _ _, below_setRow HB1.out (Nat.le_refl _) _⟩
  · cases e2 : [126].isSuffixOf l
    · have hv : Hid (readO l = none) := by show _ = _; rw [readO, sideB, e1, e2, hd3]; rfl
      have e1' : Lib.hasPrefix s.data.toList (ByteArray.mk #[126]).data.toList = [126].isPrefixOf l := by rw [hs]; rfl
      rw [e1', e1] at cp
      have e2' : Lib.hasSuffix s.data.toList (ByteArray.mk #[126]).data.toList = [126].isSuffixOf l := by rw [hs]; rfl
      rw [e2', e2] at cs
      clear hb1 hsz hd3
      go_enter Try.func28, Try.ntmps28
      go_wp2_with fail
      with_reducible refine cp.out.mono ?_
      rintro _ w1 ⟨rfl, rfl⟩
      go_wp2_with fail
      with_reducible refine cs.out.mono ?_
      rintro _ w1 ⟨rfl, rfl⟩
      go_wp2_with (refine wpList_store_blk rfl 35 _ _ rfl w.heap.size _ #[.int .i64 0, .int .i64 0, .string ⟨#[]⟩, .slice none 0 0] _ rfl rfl hbq rfl term_size (ones4 _ _ _ _ _ _) ?_)
      refine bodyPost_ret (results_c_t Try.results28 _ _ w.heap.size _ _ _ _ rfl hbq.setRow) rfl ?_
      rw [hv.out]
      exact ⟨0, 0, ⟨#[]⟩, none, 0, 0, rfl, tm_leaf _ _ _ _ _, below_setRow HB1.out (Nat.le_refl _) _⟩
    · have hv : Hid (readO l = innerO (midL l)) := by show _ = _; rw [readO, sideB, e1, e2, hd3]; rfl
      have e1' : Lib.hasPrefix s.data.toList (ByteArray.mk #[126]).data.toList = [126].isPrefixOf l := by rw [hs]; rfl
      rw [e1', e1] at cp
      have e2' : Lib.hasSuffix s.data.toList (ByteArray.mk #[126]).data.toList = [126].isSuffixOf l := by rw [hs]; rfl
      rw [e2', e2] at cs
      have hml := mid_list s l hs
      have hms : (s.extract 1 (s.size - 1)).size ≤ 1000000 := by rw [Lib.size_eq, hml, midL, List.length_take]; simp; omega
      have ci := Lib.hid (inner_walk _ _ hml (w.alloc (.cells #[.int .i64 0, .int .i64 0, .string ⟨#[]⟩, .slice none 0 0] 35)) hms)
      have hbqh := Lib.hid hbq
      clear hb1 hsz hd3 hml hms
      go_enter Try.func28, Try.ntmps28
      go_wp2_with fail
      with_reducible refine cp.out.mono ?_
      rintro _ w1 ⟨rfl, rfl⟩
      go_wp2_with fail
      with_reducible refine cs.out.mono ?_
      rintro _ w1 ⟨rfl, rfl⟩
      go_wp2_with fail
      with_reducible refine ci.out.mono ?_
      rintro _ w2 ⟨kd, nm, s2, A2, m2, c2, rfl, htv, hb3⟩
      have HB3 := Lib.hid (below_next HB1.out hb3)
      have hbq2 := hbq.below hb3 (by simp)
      have hz9 : (w.alloc (.cells #[.int .i64 0, .int .i64 0, .string ⟨#[]⟩, .slice none 0 0] 35)).heap.size = w.heap.size + 1 := by simp
      rw [hz9] at htv
      have HTV := Lib.hid (TmV.low (lo' := w.heap.size) (htv.grown (setRow_only w2 w.heap.size #[.int .i64 kd, .int .i64 nm, .string s2, .slice A2 m2 c2]) (fun q e => by injection e with e; omega)) (Nat.le_succ _))
      clear hb3 ci htv hz9
      go_wp2_with (refine wpList_store_blk rfl 35 _ _ rfl w.heap.size _ #[.int .i64 kd, .int .i64 nm, .string s2, .slice A2 m2 c2] _ rfl rfl hbq2 rfl term_size (ones4 _ _ _ _ _ _) ?_)
      refine bodyPost_ret (results_c_t Try.results28 _ _ w.heap.size _ _ _ _ rfl hbq2.setRow) rfl ?_
      rw [hv.out]
      exact ⟨kd, nm, s2, A2, m2, c2, rfl, HTV.out, below_setRow HB3.out (Nat.le_refl _) _⟩
set_option maxHeartbeats 4000000 in
theorem rread_walk (s : ByteArray) (l : List UInt8) (hs : s.data.toList = l) (w : World) (hm : s.size ≤ 1000000) :
    Calls Try.prog 29 #[.string s] w (ReadU (readO l) w) := by
  have hb1 := (Below.refl w.heap.size w).alloc (Nat.le_refl _) (.cells #[.int .i64 0, .int .i64 0, .string ⟨#[]⟩, .slice none 0 0] 35)
  have hbq := Blk.new w 35 #[.int .i64 0, .int .i64 0, .string ⟨#[]⟩, .slice none 0 0]
  have HB1 := Lib.hid hb1
  have hsz : l.length = s.size := by rw [← hs, Lib.size_eq]
  by_cases h2 : s.size < 2
  · have hv : Hid (readO l = none) := by show _ = _; rw [readO, sideB, decide_eq_true (by omega)]; rfl
    have hd : decide ((s.size : Int) < 2) = true := by simp; omega
    clear hb1 hsz
    go_enter Try.func29, Try.ntmps29
    go_wp2_with (refine wpList_store_blk rfl 35 _ _ rfl w.heap.size _ #[.int .i64 0, .int .i64 0, .string ⟨#[]⟩, .slice none 0 0] _ rfl rfl hbq rfl term_size (ones4 _ _ _ _ _ _) ?_)
    refine bodyPost_ret (results_c_t Try.results29 _ _ w.heap.size _ _ _ _ rfl hbq.setRow) rfl ?_
    rw [hv.out]
    exact ⟨0, 0, ⟨#[]⟩, none, 0, 0, rfl, tm_leaf _ _ _ _ _, below_setRow HB1.out (Nat.le_refl _) _⟩
  have hd : decide ((s.size : Int) < 2) = false := by simp; omega
  have h2' : 2 ≤ s.size := by omega
  have hd3 : decide (l.length < 2) = false := by simp; omega
  obtain ⟨b0, eb0⟩ : ∃ b, (s[0]'(Nat.lt_of_lt_of_le (by decide) h2')).toNat = b := ⟨_, rfl⟩
  obtain ⟨b1, eb1⟩ : ∃ b, (s[s.size - 1]'(Nat.sub_lt (Nat.lt_of_lt_of_le (by decide) h2') (by decide))).toNat = b := ⟨_, rfl⟩
  have q0 := pre_one l (by omega)
  rw [← str_at9 hs (k := 0) (by omega), eb0] at q0
  have q1 := suf_one l (by omega)
  rw [hsz, ← str_at9 hs (k := s.size - 1) (by omega), eb1] at q1
  have Q0 := Lib.hid q0
  have Q1 := Lib.hid q1
  clear q0 q1
  cases e1 : [126].isPrefixOf l
  · have hv : Hid (readO l = none) := by show _ = _; rw [readO, sideB, e1, hd3]; rfl
    have f1 : ((b0 : Int) == 126) = [126].isPrefixOf l := Q0.out.symm
    rw [e1] at f1
    replace f1 : ((b0 : Int) != 126) = !false := by rw [bne, f1]
    clear e1
    clear hb1 hsz hd3
    go_enter Try.func29, Try.ntmps29
    go_wp2_with (refine wpList_store_blk rfl 35 _ _ rfl w.heap.size _ #[.int .i64 0, .int .i64 0, .string ⟨#[]⟩, .slice none 0 0] _ rfl rfl hbq rfl term_size (ones4 _ _ _ _ _ _) ?_)
    refine bodyPost_ret (results_c_t Try.results29 _ _ w.heap.size _ _ _ _ rfl hbq.setRow) rfl ?_
    rw [hv.out]
    exact ⟨0, 0, ⟨#[]⟩, none, 0, 0, rfl, tm_leaf _ _ _ _ _, below_setRow HB1.out (Nat.le_refl _) _⟩
  · cases e2 : [126].isSuffixOf l
    · have hv : Hid (readO l = none) := by show _ = _; rw [readO, sideB, e1, e2, hd3]; rfl
      have f1 : ((b0 : Int) == 126) = [126].isPrefixOf l := Q0.out.symm
      rw [e1] at f1
      replace f1 : ((b0 : Int) != 126) = !true := by rw [bne, f1]
      clear e1
      have f2 : ((b1 : Int) == 126) = [126].isSuffixOf l := Q1.out.symm
      rw [e2] at f2
      replace f2 : ((b1 : Int) != 126) = !false := by rw [bne, f2]
      clear e2
      clear hb1 hsz hd3
      go_enter Try.func29, Try.ntmps29
      go_wp2_with (refine wpList_store_blk rfl 35 _ _ rfl w.heap.size _ #[.int .i64 0, .int .i64 0, .string ⟨#[]⟩, .slice none 0 0] _ rfl rfl hbq rfl term_size (ones4 _ _ _ _ _ _) ?_)
      refine bodyPost_ret (results_c_t Try.results29 _ _ w.heap.size _ _ _ _ rfl hbq.setRow) rfl ?_
      rw [hv.out]
      exact ⟨0, 0, ⟨#[]⟩, none, 0, 0, rfl, tm_leaf _ _ _ _ _, below_setRow HB1.out (Nat.le_refl _) _⟩
    · have hv : Hid (readO l = innerO (midL l)) := by show _ = _; rw [readO, sideB, e1, e2, hd3]; rfl
      have f1 : ((b0 : Int) == 126) = [126].isPrefixOf l := Q0.out.symm
      rw [e1] at f1
      replace f1 : ((b0 : Int) != 126) = !true := by rw [bne, f1]
      clear e1
      have f2 : ((b1 : Int) == 126) = [126].isSuffixOf l := Q1.out.symm
      rw [e2] at f2
      replace f2 : ((b1 : Int) != 126) = !true := by rw [bne, f2]
      clear e2
      have hml := mid_list s l hs
      have hms : (s.extract 1 (s.size - 1)).size ≤ 1000000 := by rw [Lib.size_eq, hml, midL, List.length_take]; simp; omega
      have ci := Lib.hid (rinner_walk _ _ hml (w.alloc (.cells #[.int .i64 0, .int .i64 0, .string ⟨#[]⟩, .slice none 0 0] 35)) hms)
      have hbqh := Lib.hid hbq
      clear hb1 hsz hd3 hml hms
      go_enter Try.func29, Try.ntmps29
      go_wp2_with fail
      with_reducible refine ci.out.mono ?_
      rintro _ w2 ⟨kd, nm, s2, A2, m2, c2, rfl, htv, hb3⟩
      have HB3 := Lib.hid (below_next HB1.out hb3)
      have hbq2 := hbq.below hb3 (by simp)
      have hz9 : (w.alloc (.cells #[.int .i64 0, .int .i64 0, .string ⟨#[]⟩, .slice none 0 0] 35)).heap.size = w.heap.size + 1 := by simp
      rw [hz9] at htv
      have HTV := Lib.hid (TmV.low (lo' := w.heap.size) (htv.grown (setRow_only w2 w.heap.size #[.int .i64 kd, .int .i64 nm, .string s2, .slice A2 m2 c2]) (fun q e => by injection e with e; omega)) (Nat.le_succ _))
      clear hb3 ci htv hz9
      go_wp2_with (refine wpList_store_blk rfl 35 _ _ rfl w.heap.size _ #[.int .i64 kd, .int .i64 nm, .string s2, .slice A2 m2 c2] _ rfl rfl hbq2 rfl term_size (ones4 _ _ _ _ _ _) ?_)
      refine bodyPost_ret (results_c_t Try.results29 _ _ w.heap.size _ _ _ _ rfl hbq2.setRow) rfl ?_
      rw [hv.out]
      exact ⟨kd, nm, s2, A2, m2, c2, rfl, HTV.out, below_setRow HB3.out (Nat.le_refl _) _⟩
end Go.Proofs.Ytekpdkjkkglcjaa
