/- countersignref2.put, Put. No condition of its own. Printed by wip/tools/genEk.py. -/
import Derived.Test.YtekpdkjkkglcjaaEj
import Derived.Test.YtekpdkjkkglcjaaEe
import Derived.Deep.RegionHeld3
set_option linter.unusedVariables false
set_option linter.unusedSimpArgs false
set_option maxRecDepth 20000
namespace Go.Proofs.Ytekpdkjkkglcjaa
open Go.RowKit
theorem own_not {w : World} {g base n : Nat} {T T' : TypeId} {cs : Array Value} {v : Value} {xs : List Value} (h : w.ownsRow base T 1 v n xs) (hb : Blk w g T' cs) (hne : T' ≠ T) : v.ownBlock ≠ some g := by
  rcases h.2 with ⟨rfl, _⟩ | ⟨q, cap, cur, rfl, _, hq, _⟩
  · intro e; cases e
  · intro e
    injection e with e
    have e' : q = g := e
    subst e'
    have hb' : w.heap[q]? = some (.cells cs T' (0, 0)) := hb
    rw [hq] at hb'
    injection hb' with h1
    injection h1 with h2 h3
    exact hne h3.symm
/-- what is no byte row stays -/
def KeepT (w w' : World) : Prop := ∀ g T cs, T ≠ 5 → Blk w g T cs → Blk w' g T cs
theorem KeepT.refl (w : World) : KeepT w w := fun _ _ _ _ h => h
theorem KeepT.trans {a b c : World} (h : KeepT a b) (k : KeepT b c) : KeepT a c := fun g T cs hT hb => k g T cs hT (h g T cs hT hb)
theorem KeepT.alloc {a b : World} (h : KeepT a b) (o : Obj) : KeepT a (b.alloc o) := fun g T cs hT hb => (h g T cs hT hb).alloc o
theorem KeepT.drew {a b : World} (h : KeepT a b) : KeepT a b.drew := fun g T cs hT hb => (h g T cs hT hb).drew
theorem KeepT.grown {a w w' : World} {base n : Nat} {v : Value} {xs : List Value} (h : KeepT a w) (ho : w.ownsRow base 5 1 v n xs) (hg : w.grownBy w' v.ownBlock) : KeepT a w' :=
  fun g T cs hT hb => (h g T cs hT hb).grown hg (fun e => own_not ho (h g T cs hT hb) hT e.symm)
def OwnQ (w0 w : World) (bs : List UInt8) (e : Ending) (w' : World) : Prop := ∃ v, e = .returned v ∧ w'.ownsRow w0.heap.size 5 1 v bs.length (Lib.byteCells bs) ∧ Below w0.heap.size w0 w' ∧ KeepT w w'
def RPutOk (t : Tm) : Prop := ∀ (w0 : World) (cs : List Value) (bs : List UInt8) (vb : Value) (w : World), TmV w0 0 t cs → bs.length + (encT t).length ≤ 1000000 → w.ownsRow w0.heap.size 5 1 vb bs.length (Lib.byteCells bs) → Below w0.heap.size w0 w →
    Calls Try.prog 33 #[vb, .agg cs.toArray] w (OwnQ w0 w (bs ++ encT t))
set_option maxHeartbeats 4000000 in
theorem rput_node (kind n : Int) (s : ByteArray) (kids : List Tm) (hkids : ∀ k ∈ kids, RPutOk k) : RPutOk (.mk kind n s kids) := by
  intro w0 cs bs vb w ht hl hown hb
  rw [TmV] at ht
  obtain ⟨A, c, vs, rfl, h1, h2, h3, _, h5⟩ := ht
  obtain ⟨i0, hi, hz0, hz1, hz2⟩ := info_parts4 info_u8
  rw [encT] at hl ⊢
  have hl1 : bs.length ≤ 999999 := by simp at hl; omega
  show Calls _ _ #[vb, .agg #[.int .i64 kind, .int .i64 n, .string s, .slice A kids.length c]] _ _
  have hb1 := hb.alloc hb.size (.cells #[.int .i64 kind, .int .i64 n, .string s, .slice A kids.length c] 35)
  have hsz1 : (w.alloc (.cells #[.int .i64 kind, .int .i64 n, .string s, .slice A kids.length c] 35)).heap.size = w.heap.size + 1 := by simp
  have hbx := Blk.new w 35 #[.int .i64 kind, .int .i64 n, .string s, .slice A kids.length c]
  have ho1 := hown.alloc (.cells #[.int .i64 kind, .int .i64 n, .string s, .slice A kids.length c] 35)
  have hrd := reads_new (w.alloc (.cells #[.int .i64 kind, .int .i64 n, .string s, .slice A kids.length c] 35)) 5 [.int .u8 (kind % 256)]
  rw [hsz1] at hrd
  have hk1 := (KeepT.refl w).alloc (.cells #[.int .i64 kind, .int .i64 n, .string s, .slice A kids.length c] 35)
  have hgs := hb.size
  have hTu : 35 ≠ 5 := by decide
  have hlR0 : (bs ++ byteI kind :: ((if kind = 1 then numB s.size 2 ++ s.data.toList else if kind = 2 then numB n 4 else []) ++ encTs kids)).length ≤ 1000000 := by rw [List.length_append]; exact hl
  generalize hR : bs ++ byteI kind :: ((if kind = 1 then numB s.size 2 ++ s.data.toList else if kind = 2 then numB n 4 else []) ++ encTs kids) = R at hlR0 ⊢
  have hlR := hlR0
  clear hl hlR0
  cases e1 : kind == 1
  · cases e2 : kind == 2
    · have HRe : Hid (R = (bs ++ [byteI kind]) ++ encTs kids) := by show _ = _; rw [← hR, if_neg (by simpa using e1), if_neg (by simpa using e2)]; simp
      clear hR
      go_enter Try.func33, Try.ntmps33
      go_wp2_with (at_builtin; refine wpList_append_any ((w.alloc (.cells #[.int .i64 kind, .int .i64 n, .string s, .slice A kids.length c] 35)).alloc (.cells #[.int .u8 (kind % 256)] 5)) rfl (.tmp 6) (.tmp 10) 49 rfl w0.heap.size 5 i0 (.int .u8 0) 1 1 Try.underlying49 hi hz0 hz1 hz2 rfl (by decide) vb bs.length (Lib.byteCells bs) rfl (ho1.alloc _) (w.heap.size + 2) _ 1 1 [.int .u8 (kind % 256)] rfl hrd (by simp [Value.oneCell']) (by unfold maxLen; omega) (by omega) (by simp; omega) ?_; intro v' w2 hown2 hg2 hat2; have hk2 := Lib.hid ((hk1.alloc (.cells #[.int .u8 (kind % 256)] 5)).grown (ho1.alloc _) hg2); have hbx2 : Blk w2 w.heap.size 35 #[.int .i64 kind, .int .i64 n, .string s, .slice A kids.length c] := (KeepT.grown (((KeepT.refl _).alloc _)) (ho1.alloc _) hg2) _ _ _ hTu hbx; have c20 : w2.cell? ⟨w.heap.size, 0, none⟩ = some (.int .i64 kind) := hbx2.cell 0; have c21 : w2.cell? ⟨w.heap.size, 1, none⟩ = some (.int .i64 n) := hbx2.cell 1; have c22 : w2.cell? ⟨w.heap.size, 2, none⟩ = some (.string s) := hbx2.cell 2; have c23 : w2.cell? ⟨w.heap.size, 3, none⟩ = some (.slice A kids.length c) := hbx2.cell 3; clear hat2)
      have ho3 := Lib.hid (own_byte hown2)
      have hb3 : Below w0.heap.size w0 w2 := (hb1.alloc hb1.size _).grown hg2 (by simp; omega) (fun g hg => (hown.lt g hg).1)
      clear hown2 hg2 hrd ho1 hown hbx hb1 hb hk1
      have HO := ho3
      have HBL := Lib.hid hb3
      have HK := hk2
      have HX := Lib.hid hbx2
      clear hb3 ho3 hk2 hbx2
      obtain ⟨B, hB⟩ : ∃ B, bs ++ [byteI kind] = B := ⟨_, rfl⟩
      rw [hB] at HO HRe
      have hBl : B.length + (encTs kids).length ≤ 1000000 := by have := hlR; rw [HRe.out, List.length_append] at this; exact this
      have HLR := Lib.hid hlR
      clear hB hlR
      go_loopw [0, 5] (fun bv iv wr => ∃ i : Nat, i ≤ kids.length ∧ iv = .int .i64 i ∧ Hid (wr.ownsRow w0.heap.size 5 1 bv (B ++ encTs (kids.take i)).length (Lib.byteCells (B ++ encTs (kids.take i)))) ∧ Hid (Below w0.heap.size w0 wr) ∧ Hid (KeepT w wr) ∧ Hid (Blk wr w.heap.size 35 #[.int .i64 kind, .int .i64 n, .string s, .slice A kids.length c])) (fun _ iv _ => kids.length - (intOf iv).toNat)
      case atStart => exact ⟨0, by omega, rfl, by show World.ownsRow _ _ _ _ _ _ _; rw [List.take_zero, encTs, List.append_nil]; exact HO.out, HBL, HK, HX⟩
      case round =>
        clear HBL HO HK HX
        obtain ⟨i, hik, rfl, hown, hb, hk', hx⟩ := hrel
        have c3 : wr.cell? ⟨w.heap.size, 3, none⟩ = some (.slice A kids.length c) := hx.out.cell 3
        by_cases hlt : i < kids.length
        · obtain ⟨k, hk⟩ : ∃ k, kids[i]? = some k := ⟨kids[i], List.getElem?_eq_getElem hlt⟩
          obtain ⟨ad, v, rfl, htk, hcv⟩ := kid_at h5 h3 hk
          obtain ⟨ad', e', hadl, _⟩ := h3.2 (by omega)
          injection e' with e'
          subst e'
          obtain ⟨kd, nm, s2, A2, m2, c2, rfl⟩ := htk.form
          have hcw : ∀ j u, [Value.int .i64 kd, .int .i64 nm, .string s2, .slice A2 m2 c2][j]? = some u → wr.cell? ((ad.add (i * 4)).add j) = some u := fun j u hu => (hb.out.cell (by rw [block_of_add, block_of_add]; exact hadl)).trans (hcv j u hu)
          have hsn := Lib.hid (encTs_take hk)
          have hle1 : (encTs (kids.take (i + 1))).length ≤ (encTs kids).length := encTs_le
          rw [encTs_take hk, List.length_append] at hle1
          have cp := Lib.hid (hkids k (List.mem_of_getElem? hk) w0 _ _ _ wr htk (by rw [List.length_append]; omega) hown.out hb.out)
          clear hown hle1 hk htk hcv
          go_wp2_with (refine wpList_load_at rfl 35 _ rfl (ad.add (i * 4)) rfl [.int .i64 kd, .int .i64 nm, .string s2, .slice A2 m2 c2] _ hcw Try.underlying35 rfl term_size ?_)
          refine cp.out.mono ?_
          rintro _ w5 ⟨v5, rfl, hown5, hb5, hk5⟩
          have HO5 := Lib.hid hown5
          have HB5 := Lib.hid hb5
          have HK5 := Lib.hid (hk'.out.trans hk5)
          have HX5 := Lib.hid (hk5 _ _ _ hTu hx.out)
          clear hown5 hb5 cp hk5 c3 hx
          go_wp2_with fail
          refine ⟨⟨i + 1, by omega, by go_num, ?_, HB5, HK5, HX5⟩, by simp [intOf]; omega⟩
          show World.ownsRow _ _ _ _ _ _ _
          rw [hsn.out, ← List.append_assoc]
          exact HO5.out
        · obtain rfl : i = kids.length := by omega
          go_wp2_with fail
          go_ret
          have h9 := hown.out
          rw [List.take_length] at h9
          refine ⟨_, rfl, ?_, hb.out, hk'.out⟩
          rw [HRe.out]
          exact h9
    · have HRe : Hid (R = ((bs ++ [byteI kind]) ++ numB n 4) ++ encTs kids) := by show _ = _; rw [← hR, if_neg (by simpa using e1), if_pos (by simpa using e2)]; simp
      clear hR
      go_enter Try.func33, Try.ntmps33
      go_wp2_with (at_builtin; refine wpList_append_any ((w.alloc (.cells #[.int .i64 kind, .int .i64 n, .string s, .slice A kids.length c] 35)).alloc (.cells #[.int .u8 (kind % 256)] 5)) rfl (.tmp 6) (.tmp 10) 49 rfl w0.heap.size 5 i0 (.int .u8 0) 1 1 Try.underlying49 hi hz0 hz1 hz2 rfl (by decide) vb bs.length (Lib.byteCells bs) rfl (ho1.alloc _) (w.heap.size + 2) _ 1 1 [.int .u8 (kind % 256)] rfl hrd (by simp [Value.oneCell']) (by unfold maxLen; omega) (by omega) (by simp; omega) ?_; intro v' w2 hown2 hg2 hat2; have hk2 := Lib.hid ((hk1.alloc (.cells #[.int .u8 (kind % 256)] 5)).grown (ho1.alloc _) hg2); have hbx2 : Blk w2 w.heap.size 35 #[.int .i64 kind, .int .i64 n, .string s, .slice A kids.length c] := (KeepT.grown (((KeepT.refl _).alloc _)) (ho1.alloc _) hg2) _ _ _ hTu hbx; have c20 : w2.cell? ⟨w.heap.size, 0, none⟩ = some (.int .i64 kind) := hbx2.cell 0; have c21 : w2.cell? ⟨w.heap.size, 1, none⟩ = some (.int .i64 n) := hbx2.cell 1; have c22 : w2.cell? ⟨w.heap.size, 2, none⟩ = some (.string s) := hbx2.cell 2; have c23 : w2.cell? ⟨w.heap.size, 3, none⟩ = some (.slice A kids.length c) := hbx2.cell 3; clear hat2)
      have ho3 := Lib.hid (own_byte hown2)
      have hb3 : Below w0.heap.size w0 w2 := (hb1.alloc hb1.size _).grown hg2 (by simp; omega) (fun g hg => (hown.lt g hg).1)
      clear hown2 hg2 hrd ho1 hown hbx hb1 hb hk1
      refine (rnum_put w0 (bs ++ [byteI kind]) v' n 4 w2 (.inr rfl) (by simp; omega) ho3.out hb3).mono ?_
      rintro _ w3 ⟨v3, rfl, hown4, hb4, hr4⟩
      have hkk := KeepT.grown (KeepT.refl w2) ho3.out hr4.1
      have HO := Lib.hid hown4
      have HBL := Lib.hid hb4
      have HK := Lib.hid (hk2.out.trans hkk)
      have HX := Lib.hid (hkk _ _ _ hTu hbx2)
      clear hb3 ho3 hk2 hown4 hb4 hr4 hbx2 c20 c21 c22 c23 hkk
      go_wp2_with fail
      obtain ⟨B, hB⟩ : ∃ B, bs ++ [byteI kind] ++ numB n 4 = B := ⟨_, rfl⟩
      rw [hB] at HO HRe
      have hBl : B.length + (encTs kids).length ≤ 1000000 := by have := hlR; rw [HRe.out, List.length_append] at this; exact this
      have HLR := Lib.hid hlR
      clear hB hlR
      go_loopw [0, 5] (fun bv iv wr => ∃ i : Nat, i ≤ kids.length ∧ iv = .int .i64 i ∧ Hid (wr.ownsRow w0.heap.size 5 1 bv (B ++ encTs (kids.take i)).length (Lib.byteCells (B ++ encTs (kids.take i)))) ∧ Hid (Below w0.heap.size w0 wr) ∧ Hid (KeepT w wr) ∧ Hid (Blk wr w.heap.size 35 #[.int .i64 kind, .int .i64 n, .string s, .slice A kids.length c])) (fun _ iv _ => kids.length - (intOf iv).toNat)
      case atStart => exact ⟨0, by omega, rfl, by show World.ownsRow _ _ _ _ _ _ _; rw [List.take_zero, encTs, List.append_nil]; exact HO.out, HBL, HK, HX⟩
      case round =>
        clear HBL HO HK HX
        obtain ⟨i, hik, rfl, hown, hb, hk', hx⟩ := hrel
        have c3 : wr.cell? ⟨w.heap.size, 3, none⟩ = some (.slice A kids.length c) := hx.out.cell 3
        by_cases hlt : i < kids.length
        · obtain ⟨k, hk⟩ : ∃ k, kids[i]? = some k := ⟨kids[i], List.getElem?_eq_getElem hlt⟩
          obtain ⟨ad, v, rfl, htk, hcv⟩ := kid_at h5 h3 hk
          obtain ⟨ad', e', hadl, _⟩ := h3.2 (by omega)
          injection e' with e'
          subst e'
          obtain ⟨kd, nm, s2, A2, m2, c2, rfl⟩ := htk.form
          have hcw : ∀ j u, [Value.int .i64 kd, .int .i64 nm, .string s2, .slice A2 m2 c2][j]? = some u → wr.cell? ((ad.add (i * 4)).add j) = some u := fun j u hu => (hb.out.cell (by rw [block_of_add, block_of_add]; exact hadl)).trans (hcv j u hu)
          have hsn := Lib.hid (encTs_take hk)
          have hle1 : (encTs (kids.take (i + 1))).length ≤ (encTs kids).length := encTs_le
          rw [encTs_take hk, List.length_append] at hle1
          have cp := Lib.hid (hkids k (List.mem_of_getElem? hk) w0 _ _ _ wr htk (by rw [List.length_append]; omega) hown.out hb.out)
          clear hown hle1 hk htk hcv
          go_wp2_with (refine wpList_load_at rfl 35 _ rfl (ad.add (i * 4)) rfl [.int .i64 kd, .int .i64 nm, .string s2, .slice A2 m2 c2] _ hcw Try.underlying35 rfl term_size ?_)
          refine cp.out.mono ?_
          rintro _ w5 ⟨v5, rfl, hown5, hb5, hk5⟩
          have HO5 := Lib.hid hown5
          have HB5 := Lib.hid hb5
          have HK5 := Lib.hid (hk'.out.trans hk5)
          have HX5 := Lib.hid (hk5 _ _ _ hTu hx.out)
          clear hown5 hb5 cp hk5 c3 hx
          go_wp2_with fail
          refine ⟨⟨i + 1, by omega, by go_num, ?_, HB5, HK5, HX5⟩, by simp [intOf]; omega⟩
          show World.ownsRow _ _ _ _ _ _ _
          rw [hsn.out, ← List.append_assoc]
          exact HO5.out
        · obtain rfl : i = kids.length := by omega
          go_wp2_with fail
          go_ret
          have h9 := hown.out
          rw [List.take_length] at h9
          refine ⟨_, rfl, ?_, hb.out, hk'.out⟩
          rw [HRe.out]
          exact h9
  · have HRe : Hid (R = ((bs ++ [byteI kind]) ++ numB s.size 2 ++ s.data.toList) ++ encTs kids) := by show _ = _; rw [← hR, if_pos (by simpa using e1)]; simp
    clear hR
    go_enter Try.func33, Try.ntmps33
    go_wp2_with (at_builtin; refine wpList_append_any ((w.alloc (.cells #[.int .i64 kind, .int .i64 n, .string s, .slice A kids.length c] 35)).alloc (.cells #[.int .u8 (kind % 256)] 5)) rfl (.tmp 6) (.tmp 10) 49 rfl w0.heap.size 5 i0 (.int .u8 0) 1 1 Try.underlying49 hi hz0 hz1 hz2 rfl (by decide) vb bs.length (Lib.byteCells bs) rfl (ho1.alloc _) (w.heap.size + 2) _ 1 1 [.int .u8 (kind % 256)] rfl hrd (by simp [Value.oneCell']) (by unfold maxLen; omega) (by omega) (by simp; omega) ?_; intro v' w2 hown2 hg2 hat2; have hk2 := Lib.hid ((hk1.alloc (.cells #[.int .u8 (kind % 256)] 5)).grown (ho1.alloc _) hg2); have hbx2 : Blk w2 w.heap.size 35 #[.int .i64 kind, .int .i64 n, .string s, .slice A kids.length c] := (KeepT.grown (((KeepT.refl _).alloc _)) (ho1.alloc _) hg2) _ _ _ hTu hbx; have c20 : w2.cell? ⟨w.heap.size, 0, none⟩ = some (.int .i64 kind) := hbx2.cell 0; have c21 : w2.cell? ⟨w.heap.size, 1, none⟩ = some (.int .i64 n) := hbx2.cell 1; have c22 : w2.cell? ⟨w.heap.size, 2, none⟩ = some (.string s) := hbx2.cell 2; have c23 : w2.cell? ⟨w.heap.size, 3, none⟩ = some (.slice A kids.length c) := hbx2.cell 3; clear hat2)
    have ho3 := Lib.hid (own_byte hown2)
    have hb3 : Below w0.heap.size w0 w2 := (hb1.alloc hb1.size _).grown hg2 (by simp; omega) (fun g hg => (hown.lt g hg).1)
    clear hown2 hg2 hrd ho1 hown hbx hb1 hb hk1
    have c22d : w2.drew.cell? ⟨w.heap.size, 2, none⟩ = some (.string s) := c22
    have hsl : s.size ≤ 1000000 := by have h9 := hlR; rw [HRe.out] at h9; have e9 := Lib.size_eq s; simp only [List.length_append] at h9; omega
    refine wp_region_held_drew (S := fun W => W.cell? ⟨w.heap.size, 2, none⟩ = some (.string s)) (by kernel_rfl) c22d (fun hHeld => ?_)
    first | (refine wpAnyH_take (i := 0) (v := _) rfl (by kernel_rfl) (by kernel_rfl) (by kernel_rfl) (fun _ _ _ h => h) (Or.inr ⟨?_, rfl⟩) (by assumption) ?_; rfl) | (refine wpAnyH_take (i := 0) (v := ?_) rfl (by kernel_rfl) (by kernel_rfl) (by kernel_rfl) (fun _ _ _ h => h) (Or.inl ⟨?_, ?_⟩) (by assumption) ?_; rotate_left; rfl; focus (intro w hSw; (try dsimp only at hSw); go_simp; all_goals (with_reducible rfl)))
    (try simp only [List.getElem_toArray, List.getElem_cons_zero, List.getElem_cons_succ, Act.put, List.setIfInBounds_toArray, List.set_cons_zero, List.set_cons_succ])
    first | (refine wpAnyH_take (i := 1) (v := _) rfl (by kernel_rfl) (by kernel_rfl) (by kernel_rfl) (fun _ _ _ h => h) (Or.inr ⟨?_, rfl⟩) (by assumption) ?_; rfl) | (refine wpAnyH_take (i := 1) (v := ?_) rfl (by kernel_rfl) (by kernel_rfl) (by kernel_rfl) (fun _ _ _ h => h) (Or.inl ⟨?_, ?_⟩) (by assumption) ?_; rotate_left; rfl; focus (intro w hSw; (try dsimp only at hSw); go_simp; all_goals (with_reducible rfl)))
    (try simp only [List.getElem_toArray, List.getElem_cons_zero, List.getElem_cons_succ, Act.put, List.setIfInBounds_toArray, List.set_cons_zero, List.set_cons_succ])
    first | (refine wpAnyH_take (i := 2) (v := _) rfl (by kernel_rfl) (by kernel_rfl) (by kernel_rfl) (fun _ _ _ h => h) (Or.inr ⟨?_, rfl⟩) (by assumption) ?_; rfl) | (refine wpAnyH_take (i := 2) (v := ?_) rfl (by kernel_rfl) (by kernel_rfl) (by kernel_rfl) (fun _ _ _ h => h) (Or.inl ⟨?_, ?_⟩) (by assumption) ?_; rotate_left; rfl; focus (intro w hSw; (try dsimp only at hSw); go_simp; all_goals (with_reducible rfl)))
    (try simp only [List.getElem_toArray, List.getElem_cons_zero, List.getElem_cons_succ, Act.put, List.setIfInBounds_toArray, List.set_cons_zero, List.set_cons_succ])
    first | (refine wpAnyH_take (i := 3) (v := _) rfl (by kernel_rfl) (by kernel_rfl) (by kernel_rfl) (fun _ _ _ h => h) (Or.inr ⟨?_, rfl⟩) (by assumption) ?_; rfl) | (refine wpAnyH_take (i := 3) (v := ?_) rfl (by kernel_rfl) (by kernel_rfl) (by kernel_rfl) (fun _ _ _ h => h) (Or.inl ⟨?_, ?_⟩) (by assumption) ?_; rotate_left; rfl; focus (intro w hSw; (try dsimp only at hSw); go_simp; all_goals (with_reducible rfl)))
    (try simp only [List.getElem_toArray, List.getElem_cons_zero, List.getElem_cons_succ, Act.put, List.setIfInBounds_toArray, List.set_cons_zero, List.set_cons_succ])
    first | (refine wpAnyH_take (i := 5) (v := _) rfl (by kernel_rfl) (by kernel_rfl) (by kernel_rfl) (fun _ _ _ h => h) (Or.inr ⟨?_, rfl⟩) (by assumption) ?_; rfl) | (refine wpAnyH_take (i := 5) (v := ?_) rfl (by kernel_rfl) (by kernel_rfl) (by kernel_rfl) (fun _ _ _ h => h) (Or.inl ⟨?_, ?_⟩) (by assumption) ?_; rotate_left; rfl; focus (intro w hSw; (try dsimp only at hSw); go_simp; all_goals (with_reducible rfl)))
    (try simp only [List.getElem_toArray, List.getElem_cons_zero, List.getElem_cons_succ, Act.put, List.setIfInBounds_toArray, List.set_cons_zero, List.set_cons_succ])
    first | (refine wpAnyH_take (i := 6) (v := _) rfl (by kernel_rfl) (by kernel_rfl) (by kernel_rfl) (fun _ _ _ h => h) (Or.inr ⟨?_, rfl⟩) (by assumption) ?_; rfl) | (refine wpAnyH_take (i := 6) (v := ?_) rfl (by kernel_rfl) (by kernel_rfl) (by kernel_rfl) (fun _ _ _ h => h) (Or.inl ⟨?_, ?_⟩) (by assumption) ?_; rotate_left; rfl; focus (intro w hSw; (try dsimp only at hSw); go_simp; all_goals (with_reducible rfl)))
    (try simp only [List.getElem_toArray, List.getElem_cons_zero, List.getElem_cons_succ, Act.put, List.setIfInBounds_toArray, List.set_cons_zero, List.set_cons_succ])
    refine wpAnyH_ready (rs := [4]) (by kernel_rfl) (by simp) ?_
    refine AllReadyH.cons rfl (fun K hK => ?_) AllReadyH.nil
    go_simp
    go_at_call 42
    with_reducible refine (rnum_put w0 (bs ++ [byteI kind]) v' s.size 2 w2.drew (.inl rfl) (by simp; omega) ho3.out.drew hb3.drew).mono ?_
    rintro _ w3 ⟨v3, rfl, hown4, hb4, hr4⟩
    have hkk := KeepT.grown (KeepT.refl w2.drew) ho3.out.drew hr4.1
    have hbx3 := hkk _ _ _ hTu hbx2.drew
    have c32 : w3.cell? ⟨w.heap.size, 2, none⟩ = some (.string s) := hbx3.cell 2
    refine hK.out _ _ c32 (fun hHeld => ?_)
    clear hK K
    (try simp only [List.getElem_toArray, List.getElem_cons_zero, List.getElem_cons_succ, Act.put, List.setIfInBounds_toArray, List.set_cons_zero, List.set_cons_succ])
    refine wpAnyH_ready (rs := [7]) (by kernel_rfl) (by simp) ?_
    refine AllReadyH.cons rfl (fun K hK => ?_) AllReadyH.nil
    rw [if_pos (by rfl)]
    refine wp_append_str (.tmp 20) (.tmp 22) 49 9 rfl w0.heap.size 5 i0 Try.underlying49 Try.underlying9 hi hz0 hz1 hz2 v3 _ _ rfl hown4 s rfl (by unfold maxLen; simp [numB]; omega) (by simp [numB]; omega) (by have := hb4.size; omega) ?_
    intro v4 w4 hown6 hg6
    have hkk2 := KeepT.grown hkk hown4 hg6
    have hbx4 := hkk2 _ _ _ hTu hbx2.drew
    have c42 : w4.cell? ⟨w.heap.size, 2, none⟩ = some (.string s) := hbx4.cell 2
    refine hK.out _ _ c42 (fun hHeld => ?_)
    clear hK K
    (try simp only [List.getElem_toArray, List.getElem_cons_zero, List.getElem_cons_succ, Act.put, List.setIfInBounds_toArray, List.set_cons_zero, List.set_cons_succ])
    first | (refine wpAnyH_take (i := 8) (v := _) rfl (by kernel_rfl) (by kernel_rfl) (by kernel_rfl) (fun _ _ _ h => h) (Or.inr ⟨?_, rfl⟩) (by assumption) ?_; rfl) | (refine wpAnyH_take (i := 8) (v := ?_) rfl (by kernel_rfl) (by kernel_rfl) (by kernel_rfl) (fun _ _ _ h => h) (Or.inl ⟨?_, ?_⟩) (by assumption) ?_; rotate_left; rfl; focus (intro w hSw; (try dsimp only at hSw); go_simp; all_goals (with_reducible rfl)))
    (try simp only [List.getElem_toArray, List.getElem_cons_zero, List.getElem_cons_succ, Act.put, List.setIfInBounds_toArray, List.set_cons_zero, List.set_cons_succ])
    refine wpAnyH_done (by kernel_rfl) ?_ _
    have HO : Hid (w4.ownsRow w0.heap.size 5 1 v4 ((bs ++ [byteI kind]) ++ numB s.size 2 ++ s.data.toList).length (Lib.byteCells ((bs ++ [byteI kind]) ++ numB s.size 2 ++ s.data.toList))) := by
      show World.ownsRow _ _ _ _ _ _ _
      rw [byteCells_append, List.length_append, ← Lib.size_eq]
      exact hown6
    have HBL := Lib.hid (hb4.grown hg6 (by have := hb4.size; omega) (fun g hg => (hown4.lt g hg).1))
    have HK := Lib.hid (hk2.out.drew.trans hkk2)
    have HX := Lib.hid hbx4
    clear hb3 ho3 hk2 hown4 hb4 hr4 hbx2 hbx3 hbx4 c20 c21 c22 c23 c22d c32 c42 hHeld hown6 hg6 hkk hkk2
    go_wp2_with fail
    obtain ⟨B, hB⟩ : ∃ B, bs ++ [byteI kind] ++ numB s.size 2 ++ s.data.toList = B := ⟨_, rfl⟩
    rw [hB] at HO HRe
    have hBl : B.length + (encTs kids).length ≤ 1000000 := by have := hlR; rw [HRe.out, List.length_append] at this; exact this
    have HLR := Lib.hid hlR
    clear hB hlR
    go_loopw [0, 5] (fun bv iv wr => ∃ i : Nat, i ≤ kids.length ∧ iv = .int .i64 i ∧ Hid (wr.ownsRow w0.heap.size 5 1 bv (B ++ encTs (kids.take i)).length (Lib.byteCells (B ++ encTs (kids.take i)))) ∧ Hid (Below w0.heap.size w0 wr) ∧ Hid (KeepT w wr) ∧ Hid (Blk wr w.heap.size 35 #[.int .i64 kind, .int .i64 n, .string s, .slice A kids.length c])) (fun _ iv _ => kids.length - (intOf iv).toNat)
    case atStart => exact ⟨0, by omega, rfl, by show World.ownsRow _ _ _ _ _ _ _; rw [List.take_zero, encTs, List.append_nil]; exact HO.out, HBL, HK, HX⟩
    case round =>
      clear HBL HO HK HX
      obtain ⟨i, hik, rfl, hown, hb, hk', hx⟩ := hrel
      have c3 : wr.cell? ⟨w.heap.size, 3, none⟩ = some (.slice A kids.length c) := hx.out.cell 3
      by_cases hlt : i < kids.length
      · obtain ⟨k, hk⟩ : ∃ k, kids[i]? = some k := ⟨kids[i], List.getElem?_eq_getElem hlt⟩
        obtain ⟨ad, v, rfl, htk, hcv⟩ := kid_at h5 h3 hk
        obtain ⟨ad', e', hadl, _⟩ := h3.2 (by omega)
        injection e' with e'
        subst e'
        obtain ⟨kd, nm, s2, A2, m2, c2, rfl⟩ := htk.form
        have hcw : ∀ j u, [Value.int .i64 kd, .int .i64 nm, .string s2, .slice A2 m2 c2][j]? = some u → wr.cell? ((ad.add (i * 4)).add j) = some u := fun j u hu => (hb.out.cell (by rw [block_of_add, block_of_add]; exact hadl)).trans (hcv j u hu)
        have hsn := Lib.hid (encTs_take hk)
        have hle1 : (encTs (kids.take (i + 1))).length ≤ (encTs kids).length := encTs_le
        rw [encTs_take hk, List.length_append] at hle1
        have cp := Lib.hid (hkids k (List.mem_of_getElem? hk) w0 _ _ _ wr htk (by rw [List.length_append]; omega) hown.out hb.out)
        clear hown hle1 hk htk hcv
        go_wp2_with (refine wpList_load_at rfl 35 _ rfl (ad.add (i * 4)) rfl [.int .i64 kd, .int .i64 nm, .string s2, .slice A2 m2 c2] _ hcw Try.underlying35 rfl term_size ?_)
        refine cp.out.mono ?_
        rintro _ w5 ⟨v5, rfl, hown5, hb5, hk5⟩
        have HO5 := Lib.hid hown5
        have HB5 := Lib.hid hb5
        have HK5 := Lib.hid (hk'.out.trans hk5)
        have HX5 := Lib.hid (hk5 _ _ _ hTu hx.out)
        clear hown5 hb5 cp hk5 c3 hx
        go_wp2_with fail
        refine ⟨⟨i + 1, by omega, by go_num, ?_, HB5, HK5, HX5⟩, by simp [intOf]; omega⟩
        show World.ownsRow _ _ _ _ _ _ _
        rw [hsn.out, ← List.append_assoc]
        exact HO5.out
      · obtain rfl : i = kids.length := by omega
        go_wp2_with fail
        go_ret
        have h9 := hown.out
        rw [List.take_length] at h9
        refine ⟨_, rfl, ?_, hb.out, hk'.out⟩
        rw [HRe.out]
        exact h9
mutual
theorem rput_all : ∀ t : Tm, RPutOk t
  | .mk kind n s kids => rput_node kind n s kids (rput_each kids)
theorem rput_each : ∀ ks : List Tm, ∀ k ∈ ks, RPutOk k
  | [], k, h => by simp at h
  | x :: ks, k, h => by
    have h1 := rput_all x
    have h2 := rput_each ks
    rcases List.mem_cons.1 h with e | h
    · rw [e]; exact h1
    · exact h2 k h
end
end Go.Proofs.Ytekpdkjkkglcjaa
