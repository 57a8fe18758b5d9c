import Derived.Test.YtekpdkjkkglcjaaDk
import Derived.Deep.RegionHeld3
set_option linter.unusedVariables false
set_option linter.unusedSimpArgs false
set_option maxRecDepth 20000
namespace Go.Proofs.Ytekpdkjkkglcjaa
open Go.RowKit
mutual
def encT : Tm → List UInt8
  | .mk kind n s kids => byteI kind :: ((if kind = 1 then numB s.size 2 ++ s.data.toList else if kind = 2 then numB n 4 else []) ++ encTs kids)
def encTs : List Tm → List UInt8
  | [] => []
  | k :: ks => encT k ++ encTs ks
end
theorem encTs_append : ∀ (a b : List Tm), encTs (a ++ b) = encTs a ++ encTs b
  | [], b => by rw [List.nil_append, show encTs [] = [] by rw [encTs], List.nil_append]
  | k :: a, b => by rw [List.cons_append, encTs, encTs, encTs_append a b, List.append_assoc]
theorem encTs_one (k : Tm) : encTs [k] = encT k := by rw [encTs, encTs, List.append_nil]
theorem encTs_take {ks : List Tm} {i : Nat} {k : Tm} (h : ks[i]? = some k) : encTs (ks.take (i + 1)) = encTs (ks.take i) ++ encT k := by
  rw [List.take_add_one, h, Option.toList, encTs_append, encTs_one]
theorem encTs_le {ks : List Tm} {i : Nat} : (encTs (ks.take i)).length ≤ (encTs ks).length := by
  have : encTs ks = encTs (ks.take i) ++ encTs (ks.drop i) := by rw [← encTs_append, List.take_append_drop]
  rw [this, List.length_append]
  omega
def OwnP (w0 : World) (bs : List UInt8) (e : Ending) (w' : World) : Prop := ∃ v, e = .returned v ∧ w'.ownsRow w0.heap.size 5 1 v bs.length (Lib.byteCells bs) ∧ Below w0.heap.size w0 w'
theorem wp_append_str {P : Program} {o : Oper} {a : Act} {w : World} {K : Act → World → Prop} {Q : Exit → Act → World → Prop} (sl x : Operand) (t u : TypeId)
    (ho : o.op = .call { callee := .builtin .append, args := #[sl, x], argTypes := #[t, u] })
    (base : Nat) (e : TypeId) (i : TypeInfo) (ht : P.underlying t = some (.slice e)) (hu : P.underlying u = some .string) (hi : P.info? e = some i) (hz : i.zero = some (.int .u8 0))
    (hsize : i.size = 1) (hby : i.bytes = 1)
    (v : Value) (n : Nat) (xs : List Value) (hs : a.eval sl = v) (hown : w.ownsRow base e 1 v n xs) (s : ByteArray) (hx : a.eval x = .string s)
    (h63 : n + s.size ≤ maxLen) (hbytes : n + s.size ≤ 140737488355328) (hbase : base ≤ w.heap.size)
    (h : ∀ v' w', w'.ownsRow base e 1 v' (n + s.size) (xs ++ Lib.strCells s) → w.grownBy w' v.ownBlock → K (a.put o.dst v') w') : o.wp P a w K Q := by
  obtain ⟨v', w', hr, h2, h3, h4⟩ := Lib.run_append_own_string (P := P) w base t u o.type e i ht hu hi hz hsize hby v n xs hown s h63 hbytes hbase
  unfold Oper.wp execOp
  simp only [ho, resolve, invoke, builtin, Sem.run_bind, Sem.run_pure, Result.andThen_ok, List.map_toArray, List.map_cons, List.map_nil, hs, hx, hr]
  exact h v' w' h2 h3
def PutsOk (t : Tm) : Prop := ∀ (w0 : World) (cs : List Value) (bs : List UInt8) (vb : Value) (w : World), TmV w0 0 t cs → bs.length + (encT t).length ≤ 1000000 → w.ownsRow w0.heap.size 5 1 vb bs.length (Lib.byteCells bs) → Below w0.heap.size w0 w →
    Calls Try.prog 53 #[vb, .agg cs.toArray] w (OwnP w0 (bs ++ encT t))
set_option maxHeartbeats 4000000 in
theorem puts_node (kind n : Int) (s : ByteArray) (kids : List Tm) (hkids : ∀ k ∈ kids, PutsOk k) : PutsOk (.mk kind n s kids) := by
  intro w0 cs bs vb w ht hl hown hb
  rw [TmV] at ht
  obtain ⟨A, c, vs, rfl, h1, h2, h3, _, h5⟩ := ht
  obtain ⟨i0, hi, hz0, hz1, hz2⟩ := info_parts4 info_u8
  rw [encT] at hl ⊢
  have hl1 : bs.length ≤ 999999 := by simp at hl; omega
  show Calls _ _ #[vb, .agg #[.int .i64 kind, .int .i64 n, .string s, .slice A kids.length c]] _ _
  have hb1 := hb.alloc hb.size (.cells #[.int .i64 kind, .int .i64 n, .string s, .slice A kids.length c] 35)
  have hsz1 : (w.alloc (.cells #[.int .i64 kind, .int .i64 n, .string s, .slice A kids.length c] 35)).heap.size = w.heap.size + 1 := by simp
  have hbx := Blk.new w 35 #[.int .i64 kind, .int .i64 n, .string s, .slice A kids.length c]
  have ho1 := hown.alloc (.cells #[.int .i64 kind, .int .i64 n, .string s, .slice A kids.length c] 35)
  have hrd := reads_new (w.alloc (.cells #[.int .i64 kind, .int .i64 n, .string s, .slice A kids.length c] 35)) 5 [.int .u8 (kind % 256)]
  rw [hsz1] at hrd
  have hvw : vb.ownBlock ≠ some w.heap.size := fun e => by have := (hown.lt _ e).2; omega
  have hgs := hb.size
  have hlR0 : (bs ++ byteI kind :: ((if kind = 1 then numB s.size 2 ++ s.data.toList else if kind = 2 then numB n 4 else []) ++ encTs kids)).length ≤ 1000000 := by rw [List.length_append]; exact hl
  generalize hR : bs ++ byteI kind :: ((if kind = 1 then numB s.size 2 ++ s.data.toList else if kind = 2 then numB n 4 else []) ++ encTs kids) = R at hlR0 ⊢
  have hlR := hlR0
  clear hl hlR0
  cases e1 : kind == 1
  · cases e2 : kind == 2
    · have HRe : Hid (R = (bs ++ [byteI kind]) ++ encTs kids) := by show _ = _; rw [← hR, if_neg (by simpa using e1), if_neg (by simpa using e2)]; simp
      clear hR
      go_enter Try.func53, Try.ntmps53
      go_wp2_with (at_builtin; refine wpList_append_any ((w.alloc (.cells #[.int .i64 kind, .int .i64 n, .string s, .slice A kids.length c] 35)).alloc (.cells #[.int .u8 (kind % 256)] 5)) rfl (.tmp 7) (.tmp 11) 49 rfl w0.heap.size 5 i0 (.int .u8 0) 1 1 Try.underlying49 hi hz0 hz1 hz2 rfl (by decide) vb bs.length (Lib.byteCells bs) rfl (ho1.alloc _) (w.heap.size + 2) _ 1 1 [.int .u8 (kind % 256)] rfl hrd (by simp [Value.oneCell']) (by unfold maxLen; omega) (by omega) (by simp; omega) ?_; intro v' w2 hown2 hg2 hat2; have hbx2 : Blk w2 w.heap.size 35 #[.int .i64 kind, .int .i64 n, .string s, .slice A kids.length c] := (hbx.alloc _).grown hg2 (fun e => hvw e.symm); have c20 : w2.cell? ⟨w.heap.size, 0, none⟩ = some (.int .i64 kind) := hbx2.cell 0; have c21 : w2.cell? ⟨w.heap.size, 1, none⟩ = some (.int .i64 n) := hbx2.cell 1; have c22 : w2.cell? ⟨w.heap.size, 2, none⟩ = some (.string s) := hbx2.cell 2; have c23 : w2.cell? ⟨w.heap.size, 3, none⟩ = some (.slice A kids.length c) := hbx2.cell 3; have hvw2 : v'.ownBlock ≠ some w.heap.size := (fun e => by rcases hat2 with h | h; exact hvw (h.symm.trans e); rw [h] at e; injection e with e; simp at e; omega); have hro := Lib.hid (((RowOn.refl w vb).alloc _).trans (RowOn.step hg2 hat2)); clear hat2)
      have ho3 := Lib.hid (own_byte hown2)
      have hb3 : Below w0.heap.size w0 w2 := (hb1.alloc hb1.size _).grown hg2 (by simp; omega) (fun g hg => (hown.lt g hg).1)
      clear hown2 hg2 hrd ho1 hown hbx hb1 hb
      have HO := ho3
      have HBL := Lib.hid hb3
      clear hb3 ho3 hro hvw2
      obtain ⟨B, hB⟩ : ∃ B, bs ++ [byteI kind] = B := ⟨_, rfl⟩
      rw [hB] at HO HRe
      have hBl : B.length + (encTs kids).length ≤ 1000000 := by have := hlR; rw [HRe.out, List.length_append] at this; exact this
      have HLR := Lib.hid hlR
      clear hB hlR
      go_loopw [0, 34] (fun bv iv wr => ∃ i : Nat, i ≤ kids.length ∧ iv = .int .i64 i ∧ Hid (wr.ownsRow w0.heap.size 5 1 bv (B ++ encTs (kids.take i)).length (Lib.byteCells (B ++ encTs (kids.take i)))) ∧ Hid (Below w0.heap.size w0 wr)) (fun _ iv _ => kids.length - (intOf iv).toNat)
      case atStart => exact ⟨0, by omega, rfl, by show World.ownsRow _ _ _ _ _ _ _; rw [List.take_zero, encTs, List.append_nil]; exact HO.out, HBL⟩
      case round =>
        clear HBL HO
        obtain ⟨i, hik, rfl, hown, hb⟩ := hrel
        by_cases hlt : i < kids.length
        · obtain ⟨k, hk⟩ : ∃ k, kids[i]? = some k := ⟨kids[i], List.getElem?_eq_getElem hlt⟩
          obtain ⟨ad, v, rfl, htk, hcv⟩ := kid_at h5 h3 hk
          obtain ⟨ad', e', hadl, _⟩ := h3.2 (by omega)
          injection e' with e'
          subst e'
          obtain ⟨kd, nm, s2, A2, m2, c2, rfl⟩ := htk.form
          have hcw : ∀ j u, [Value.int .i64 kd, .int .i64 nm, .string s2, .slice A2 m2 c2][j]? = some u → wr.cell? ((ad.add (i * 4)).add j) = some u := fun j u hu => (hb.out.cell (by rw [block_of_add, block_of_add]; exact hadl)).trans (hcv j u hu)
          have hsn := Lib.hid (encTs_take hk)
          have hle1 : (encTs (kids.take (i + 1))).length ≤ (encTs kids).length := encTs_le
          rw [encTs_take hk, List.length_append] at hle1
          have hbn := Blk.new wr 35 #[.int .i64 kd, .int .i64 nm, .string s2, .slice A2 m2 c2]
          have cp := Lib.hid (hkids k (List.mem_of_getElem? hk) w0 _ _ _ (wr.alloc (.cells #[.int .i64 kd, .int .i64 nm, .string s2, .slice A2 m2 c2] 35)) htk (by rw [List.length_append]; omega) (hown.out.alloc _) (hb.out.alloc hb.out.size _))
          clear hown hle1 hk htk hcv
          go_wp2_with (first
            | (refine wpList_load_at rfl 35 _ rfl (ad.add (i * 4)) rfl [.int .i64 kd, .int .i64 nm, .string s2, .slice A2 m2 c2] _ hcw Try.underlying35 rfl term_size ?_)
            | (refine wpList_store_fresh wr rfl 35 _ _ rfl _ #[.int .i64 kd, .int .i64 nm, .string s2, .slice A2 m2 c2] _ rfl rfl rfl term_size (ones4 _ _ _ _ _ _) ?_)
            | (refine wpList_load_at rfl 35 _ rfl ⟨wr.heap.size, 0, none⟩ rfl [.int .i64 kd, .int .i64 nm, .string s2, .slice A2 m2 c2] _ (blk_cells hbn) Try.underlying35 rfl term_size ?_))
          refine cp.out.mono ?_
          rintro _ w5 ⟨v5, rfl, hown5, hb5⟩
          have HO5 := Lib.hid hown5
          have HB5 := Lib.hid hb5
          clear hown5 hb5 cp
          go_wp2_with fail
          refine ⟨⟨i + 1, by omega, by go_num, ?_, HB5⟩, by simp [intOf]; omega⟩
          show World.ownsRow _ _ _ _ _ _ _
          rw [hsn.out, ← List.append_assoc]
          exact HO5.out
        · obtain rfl : i = kids.length := by omega
          go_wp2_with fail
          go_ret
          have h9 := hown.out
          rw [List.take_length] at h9
          refine ⟨_, rfl, ?_, hb.out⟩
          rw [HRe.out]
          exact h9
    · have HRe : Hid (R = ((bs ++ [byteI kind]) ++ numB n 4) ++ encTs kids) := by show _ = _; rw [← hR, if_neg (by simpa using e1), if_pos (by simpa using e2)]; simp
      clear hR
      go_enter Try.func53, Try.ntmps53
      go_wp2_with (at_builtin; refine wpList_append_any ((w.alloc (.cells #[.int .i64 kind, .int .i64 n, .string s, .slice A kids.length c] 35)).alloc (.cells #[.int .u8 (kind % 256)] 5)) rfl (.tmp 7) (.tmp 11) 49 rfl w0.heap.size 5 i0 (.int .u8 0) 1 1 Try.underlying49 hi hz0 hz1 hz2 rfl (by decide) vb bs.length (Lib.byteCells bs) rfl (ho1.alloc _) (w.heap.size + 2) _ 1 1 [.int .u8 (kind % 256)] rfl hrd (by simp [Value.oneCell']) (by unfold maxLen; omega) (by omega) (by simp; omega) ?_; intro v' w2 hown2 hg2 hat2; have hbx2 : Blk w2 w.heap.size 35 #[.int .i64 kind, .int .i64 n, .string s, .slice A kids.length c] := (hbx.alloc _).grown hg2 (fun e => hvw e.symm); have c20 : w2.cell? ⟨w.heap.size, 0, none⟩ = some (.int .i64 kind) := hbx2.cell 0; have c21 : w2.cell? ⟨w.heap.size, 1, none⟩ = some (.int .i64 n) := hbx2.cell 1; have c22 : w2.cell? ⟨w.heap.size, 2, none⟩ = some (.string s) := hbx2.cell 2; have c23 : w2.cell? ⟨w.heap.size, 3, none⟩ = some (.slice A kids.length c) := hbx2.cell 3; have hvw2 : v'.ownBlock ≠ some w.heap.size := (fun e => by rcases hat2 with h | h; exact hvw (h.symm.trans e); rw [h] at e; injection e with e; simp at e; omega); have hro := Lib.hid (((RowOn.refl w vb).alloc _).trans (RowOn.step hg2 hat2)); clear hat2)
      have ho3 := Lib.hid (own_byte hown2)
      have hb3 : Below w0.heap.size w0 w2 := (hb1.alloc hb1.size _).grown hg2 (by simp; omega) (fun g hg => (hown.lt g hg).1)
      clear hown2 hg2 hrd ho1 hown hbx hb1 hb
      refine (number_put w0 (bs ++ [byteI kind]) v' n 4 w2 (.inr rfl) (by simp; omega) ho3.out hb3).mono ?_
      rintro _ w3 ⟨v3, rfl, hown4, hb4, hr4⟩
      have hbx3 := hbx2.grown hr4.1 (fun e => hvw2 e.symm)
      have c33 : w3.cell? ⟨w.heap.size, 3, none⟩ = some (.slice A kids.length c) := hbx3.cell 3
      have HO := Lib.hid hown4
      have HBL := Lib.hid hb4
      clear hb3 ho3 hro hvw2 hown4 hb4 hr4 hbx2 hbx3 c20 c21 c22 c23
      go_wp2_with fail
      obtain ⟨B, hB⟩ : ∃ B, bs ++ [byteI kind] ++ numB n 4 = B := ⟨_, rfl⟩
      rw [hB] at HO HRe
      have hBl : B.length + (encTs kids).length ≤ 1000000 := by have := hlR; rw [HRe.out, List.length_append] at this; exact this
      have HLR := Lib.hid hlR
      clear hB hlR
      go_loopw [0, 34] (fun bv iv wr => ∃ i : Nat, i ≤ kids.length ∧ iv = .int .i64 i ∧ Hid (wr.ownsRow w0.heap.size 5 1 bv (B ++ encTs (kids.take i)).length (Lib.byteCells (B ++ encTs (kids.take i)))) ∧ Hid (Below w0.heap.size w0 wr)) (fun _ iv _ => kids.length - (intOf iv).toNat)
      case atStart => exact ⟨0, by omega, rfl, by show World.ownsRow _ _ _ _ _ _ _; rw [List.take_zero, encTs, List.append_nil]; exact HO.out, HBL⟩
      case round =>
        clear HBL HO
        obtain ⟨i, hik, rfl, hown, hb⟩ := hrel
        by_cases hlt : i < kids.length
        · obtain ⟨k, hk⟩ : ∃ k, kids[i]? = some k := ⟨kids[i], List.getElem?_eq_getElem hlt⟩
          obtain ⟨ad, v, rfl, htk, hcv⟩ := kid_at h5 h3 hk
          obtain ⟨ad', e', hadl, _⟩ := h3.2 (by omega)
          injection e' with e'
          subst e'
          obtain ⟨kd, nm, s2, A2, m2, c2, rfl⟩ := htk.form
          have hcw : ∀ j u, [Value.int .i64 kd, .int .i64 nm, .string s2, .slice A2 m2 c2][j]? = some u → wr.cell? ((ad.add (i * 4)).add j) = some u := fun j u hu => (hb.out.cell (by rw [block_of_add, block_of_add]; exact hadl)).trans (hcv j u hu)
          have hsn := Lib.hid (encTs_take hk)
          have hle1 : (encTs (kids.take (i + 1))).length ≤ (encTs kids).length := encTs_le
          rw [encTs_take hk, List.length_append] at hle1
          have hbn := Blk.new wr 35 #[.int .i64 kd, .int .i64 nm, .string s2, .slice A2 m2 c2]
          have cp := Lib.hid (hkids k (List.mem_of_getElem? hk) w0 _ _ _ (wr.alloc (.cells #[.int .i64 kd, .int .i64 nm, .string s2, .slice A2 m2 c2] 35)) htk (by rw [List.length_append]; omega) (hown.out.alloc _) (hb.out.alloc hb.out.size _))
          clear hown hle1 hk htk hcv
          go_wp2_with (first
            | (refine wpList_load_at rfl 35 _ rfl (ad.add (i * 4)) rfl [.int .i64 kd, .int .i64 nm, .string s2, .slice A2 m2 c2] _ hcw Try.underlying35 rfl term_size ?_)
            | (refine wpList_store_fresh wr rfl 35 _ _ rfl _ #[.int .i64 kd, .int .i64 nm, .string s2, .slice A2 m2 c2] _ rfl rfl rfl term_size (ones4 _ _ _ _ _ _) ?_)
            | (refine wpList_load_at rfl 35 _ rfl ⟨wr.heap.size, 0, none⟩ rfl [.int .i64 kd, .int .i64 nm, .string s2, .slice A2 m2 c2] _ (blk_cells hbn) Try.underlying35 rfl term_size ?_))
          refine cp.out.mono ?_
          rintro _ w5 ⟨v5, rfl, hown5, hb5⟩
          have HO5 := Lib.hid hown5
          have HB5 := Lib.hid hb5
          clear hown5 hb5 cp
          go_wp2_with fail
          refine ⟨⟨i + 1, by omega, by go_num, ?_, HB5⟩, by simp [intOf]; omega⟩
          show World.ownsRow _ _ _ _ _ _ _
          rw [hsn.out, ← List.append_assoc]
          exact HO5.out
        · obtain rfl : i = kids.length := by omega
          go_wp2_with fail
          go_ret
          have h9 := hown.out
          rw [List.take_length] at h9
          refine ⟨_, rfl, ?_, hb.out⟩
          rw [HRe.out]
          exact h9
  · have HRe : Hid (R = ((bs ++ [byteI kind]) ++ numB s.size 2 ++ s.data.toList) ++ encTs kids) := by show _ = _; rw [← hR, if_pos (by simpa using e1)]; simp
    clear hR
    go_enter Try.func53, Try.ntmps53
    go_wp2_with (at_builtin; refine wpList_append_any ((w.alloc (.cells #[.int .i64 kind, .int .i64 n, .string s, .slice A kids.length c] 35)).alloc (.cells #[.int .u8 (kind % 256)] 5)) rfl (.tmp 7) (.tmp 11) 49 rfl w0.heap.size 5 i0 (.int .u8 0) 1 1 Try.underlying49 hi hz0 hz1 hz2 rfl (by decide) vb bs.length (Lib.byteCells bs) rfl (ho1.alloc _) (w.heap.size + 2) _ 1 1 [.int .u8 (kind % 256)] rfl hrd (by simp [Value.oneCell']) (by unfold maxLen; omega) (by omega) (by simp; omega) ?_; intro v' w2 hown2 hg2 hat2; have hbx2 : Blk w2 w.heap.size 35 #[.int .i64 kind, .int .i64 n, .string s, .slice A kids.length c] := (hbx.alloc _).grown hg2 (fun e => hvw e.symm); have c20 : w2.cell? ⟨w.heap.size, 0, none⟩ = some (.int .i64 kind) := hbx2.cell 0; have c21 : w2.cell? ⟨w.heap.size, 1, none⟩ = some (.int .i64 n) := hbx2.cell 1; have c22 : w2.cell? ⟨w.heap.size, 2, none⟩ = some (.string s) := hbx2.cell 2; have c23 : w2.cell? ⟨w.heap.size, 3, none⟩ = some (.slice A kids.length c) := hbx2.cell 3; have hvw2 : v'.ownBlock ≠ some w.heap.size := (fun e => by rcases hat2 with h | h; exact hvw (h.symm.trans e); rw [h] at e; injection e with e; simp at e; omega); have hro := Lib.hid (((RowOn.refl w vb).alloc _).trans (RowOn.step hg2 hat2)); clear hat2)
    have ho3 := Lib.hid (own_byte hown2)
    have hb3 : Below w0.heap.size w0 w2 := (hb1.alloc hb1.size _).grown hg2 (by simp; omega) (fun g hg => (hown.lt g hg).1)
    clear hown2 hg2 hrd ho1 hown hbx hb1 hb
    have c22d : w2.drew.cell? ⟨w.heap.size, 2, none⟩ = some (.string s) := c22
    have hsl : s.size ≤ 1000000 := by have h9 := hlR; rw [HRe.out] at h9; have e9 := Lib.size_eq s; simp only [List.length_append] at h9; omega
    refine wp_region_held_drew (S := fun W => W.cell? ⟨w.heap.size, 2, none⟩ = some (.string s)) (by kernel_rfl) c22d (fun hHeld => ?_)
    first | (refine wpAnyH_take (i := 0) (v := _) rfl (by kernel_rfl) (by kernel_rfl) (by kernel_rfl) (fun _ _ _ h => h) (Or.inr ⟨?_, rfl⟩) (by assumption) ?_; rfl) | (refine wpAnyH_take (i := 0) (v := ?_) rfl (by kernel_rfl) (by kernel_rfl) (by kernel_rfl) (fun _ _ _ h => h) (Or.inl ⟨?_, ?_⟩) (by assumption) ?_; rotate_left; rfl; focus (intro w hSw; (try dsimp only at hSw); go_simp; all_goals (with_reducible rfl)))
    (try simp only [List.getElem_toArray, List.getElem_cons_zero, List.getElem_cons_succ, Act.put, List.setIfInBounds_toArray, List.set_cons_zero, List.set_cons_succ])
    first | (refine wpAnyH_take (i := 1) (v := _) rfl (by kernel_rfl) (by kernel_rfl) (by kernel_rfl) (fun _ _ _ h => h) (Or.inr ⟨?_, rfl⟩) (by assumption) ?_; rfl) | (refine wpAnyH_take (i := 1) (v := ?_) rfl (by kernel_rfl) (by kernel_rfl) (by kernel_rfl) (fun _ _ _ h => h) (Or.inl ⟨?_, ?_⟩) (by assumption) ?_; rotate_left; rfl; focus (intro w hSw; (try dsimp only at hSw); go_simp; all_goals (with_reducible rfl)))
    (try simp only [List.getElem_toArray, List.getElem_cons_zero, List.getElem_cons_succ, Act.put, List.setIfInBounds_toArray, List.set_cons_zero, List.set_cons_succ])
    first | (refine wpAnyH_take (i := 2) (v := _) rfl (by kernel_rfl) (by kernel_rfl) (by kernel_rfl) (fun _ _ _ h => h) (Or.inr ⟨?_, rfl⟩) (by assumption) ?_; rfl) | (refine wpAnyH_take (i := 2) (v := ?_) rfl (by kernel_rfl) (by kernel_rfl) (by kernel_rfl) (fun _ _ _ h => h) (Or.inl ⟨?_, ?_⟩) (by assumption) ?_; rotate_left; rfl; focus (intro w hSw; (try dsimp only at hSw); go_simp; all_goals (with_reducible rfl)))
    (try simp only [List.getElem_toArray, List.getElem_cons_zero, List.getElem_cons_succ, Act.put, List.setIfInBounds_toArray, List.set_cons_zero, List.set_cons_succ])
    first | (refine wpAnyH_take (i := 3) (v := _) rfl (by kernel_rfl) (by kernel_rfl) (by kernel_rfl) (fun _ _ _ h => h) (Or.inr ⟨?_, rfl⟩) (by assumption) ?_; rfl) | (refine wpAnyH_take (i := 3) (v := ?_) rfl (by kernel_rfl) (by kernel_rfl) (by kernel_rfl) (fun _ _ _ h => h) (Or.inl ⟨?_, ?_⟩) (by assumption) ?_; rotate_left; rfl; focus (intro w hSw; (try dsimp only at hSw); go_simp; all_goals (with_reducible rfl)))
    (try simp only [List.getElem_toArray, List.getElem_cons_zero, List.getElem_cons_succ, Act.put, List.setIfInBounds_toArray, List.set_cons_zero, List.set_cons_succ])
    first | (refine wpAnyH_take (i := 5) (v := _) rfl (by kernel_rfl) (by kernel_rfl) (by kernel_rfl) (fun _ _ _ h => h) (Or.inr ⟨?_, rfl⟩) (by assumption) ?_; rfl) | (refine wpAnyH_take (i := 5) (v := ?_) rfl (by kernel_rfl) (by kernel_rfl) (by kernel_rfl) (fun _ _ _ h => h) (Or.inl ⟨?_, ?_⟩) (by assumption) ?_; rotate_left; rfl; focus (intro w hSw; (try dsimp only at hSw); go_simp; all_goals (with_reducible rfl)))
    (try simp only [List.getElem_toArray, List.getElem_cons_zero, List.getElem_cons_succ, Act.put, List.setIfInBounds_toArray, List.set_cons_zero, List.set_cons_succ])
    first | (refine wpAnyH_take (i := 6) (v := _) rfl (by kernel_rfl) (by kernel_rfl) (by kernel_rfl) (fun _ _ _ h => h) (Or.inr ⟨?_, rfl⟩) (by assumption) ?_; rfl) | (refine wpAnyH_take (i := 6) (v := ?_) rfl (by kernel_rfl) (by kernel_rfl) (by kernel_rfl) (fun _ _ _ h => h) (Or.inl ⟨?_, ?_⟩) (by assumption) ?_; rotate_left; rfl; focus (intro w hSw; (try dsimp only at hSw); go_simp; all_goals (with_reducible rfl)))
    (try simp only [List.getElem_toArray, List.getElem_cons_zero, List.getElem_cons_succ, Act.put, List.setIfInBounds_toArray, List.set_cons_zero, List.set_cons_succ])
    refine wpAnyH_ready (rs := [4]) (by kernel_rfl) (by simp) ?_
    refine AllReadyH.cons rfl (fun K hK => ?_) AllReadyH.nil
    go_simp
    go_at_call 63
    with_reducible refine (number_put w0 (bs ++ [byteI kind]) v' s.size 2 w2.drew (.inl rfl) (by simp; omega) ho3.out.drew hb3.drew).mono ?_
    rintro _ w3 ⟨v3, rfl, hown4, hb4, hr4⟩
    have hbx3 := (hbx2.drew).grown hr4.1 (fun e => hvw2 e.symm)
    have c32 : w3.cell? ⟨w.heap.size, 2, none⟩ = some (.string s) := hbx3.cell 2
    refine hK.out _ _ c32 (fun hHeld => ?_)
    clear hK K
    (try simp only [List.getElem_toArray, List.getElem_cons_zero, List.getElem_cons_succ, Act.put, List.setIfInBounds_toArray, List.set_cons_zero, List.set_cons_succ])
    refine wpAnyH_ready (rs := [7]) (by kernel_rfl) (by simp) ?_
    refine AllReadyH.cons rfl (fun K hK => ?_) AllReadyH.nil
    rw [if_pos (by rfl)]
    have hvw3 : v3.ownBlock ≠ some w.heap.size := (fun e => by rcases hr4.2 with h | ⟨q, h, hq⟩; exact hvw2 (h.symm.trans e); rw [h] at e; injection e with e; have := hbx2.lt; simp at hq; omega)
    refine wp_append_str (.tmp 21) (.tmp 23) 49 9 rfl w0.heap.size 5 i0 Try.underlying49 Try.underlying9 hi hz0 hz1 hz2 v3 _ _ rfl hown4 s rfl (by unfold maxLen; simp [numB]; omega) (by simp [numB]; omega) (by have := hb4.size; omega) ?_
    intro v4 w4 hown6 hg6
    have hbx4 := hbx3.grown hg6 (fun e => hvw3 e.symm)
    have c42 : w4.cell? ⟨w.heap.size, 2, none⟩ = some (.string s) := hbx4.cell 2
    have c43 : w4.cell? ⟨w.heap.size, 3, none⟩ = some (.slice A kids.length c) := hbx4.cell 3
    refine hK.out _ _ c42 (fun hHeld => ?_)
    clear hK K
    (try simp only [List.getElem_toArray, List.getElem_cons_zero, List.getElem_cons_succ, Act.put, List.setIfInBounds_toArray, List.set_cons_zero, List.set_cons_succ])
    first | (refine wpAnyH_take (i := 8) (v := _) rfl (by kernel_rfl) (by kernel_rfl) (by kernel_rfl) (fun _ _ _ h => h) (Or.inr ⟨?_, rfl⟩) (by assumption) ?_; rfl) | (refine wpAnyH_take (i := 8) (v := ?_) rfl (by kernel_rfl) (by kernel_rfl) (by kernel_rfl) (fun _ _ _ h => h) (Or.inl ⟨?_, ?_⟩) (by assumption) ?_; rotate_left; rfl; focus (intro w hSw; (try dsimp only at hSw); go_simp; all_goals (with_reducible rfl)))
    (try simp only [List.getElem_toArray, List.getElem_cons_zero, List.getElem_cons_succ, Act.put, List.setIfInBounds_toArray, List.set_cons_zero, List.set_cons_succ])
    refine wpAnyH_done (by kernel_rfl) ?_ _
    have HO : Hid (w4.ownsRow w0.heap.size 5 1 v4 ((bs ++ [byteI kind]) ++ numB s.size 2 ++ s.data.toList).length (Lib.byteCells ((bs ++ [byteI kind]) ++ numB s.size 2 ++ s.data.toList))) := by
      show World.ownsRow _ _ _ _ _ _ _
      rw [byteCells_append, List.length_append, ← Lib.size_eq]
      exact hown6
    have HBL := Lib.hid (hb4.grown hg6 (by have := hb4.size; omega) (fun g hg => (hown4.lt g hg).1))
    clear hb3 ho3 hro hvw2 hvw3 hown4 hb4 hr4 hbx2 hbx3 hbx4 c20 c21 c22 c23 c22d c32 c42 hHeld hown6 hg6
    go_wp2_with fail
    obtain ⟨B, hB⟩ : ∃ B, bs ++ [byteI kind] ++ numB s.size 2 ++ s.data.toList = B := ⟨_, rfl⟩
    rw [hB] at HO HRe
    have hBl : B.length + (encTs kids).length ≤ 1000000 := by have := hlR; rw [HRe.out, List.length_append] at this; exact this
    have HLR := Lib.hid hlR
    clear hB hlR
    go_loopw [0, 34] (fun bv iv wr => ∃ i : Nat, i ≤ kids.length ∧ iv = .int .i64 i ∧ Hid (wr.ownsRow w0.heap.size 5 1 bv (B ++ encTs (kids.take i)).length (Lib.byteCells (B ++ encTs (kids.take i)))) ∧ Hid (Below w0.heap.size w0 wr)) (fun _ iv _ => kids.length - (intOf iv).toNat)
    case atStart => exact ⟨0, by omega, rfl, by show World.ownsRow _ _ _ _ _ _ _; rw [List.take_zero, encTs, List.append_nil]; exact HO.out, HBL⟩
    case round =>
      clear HBL HO
      obtain ⟨i, hik, rfl, hown, hb⟩ := hrel
      by_cases hlt : i < kids.length
      · obtain ⟨k, hk⟩ : ∃ k, kids[i]? = some k := ⟨kids[i], List.getElem?_eq_getElem hlt⟩
        obtain ⟨ad, v, rfl, htk, hcv⟩ := kid_at h5 h3 hk
        obtain ⟨ad', e', hadl, _⟩ := h3.2 (by omega)
        injection e' with e'
        subst e'
        obtain ⟨kd, nm, s2, A2, m2, c2, rfl⟩ := htk.form
        have hcw : ∀ j u, [Value.int .i64 kd, .int .i64 nm, .string s2, .slice A2 m2 c2][j]? = some u → wr.cell? ((ad.add (i * 4)).add j) = some u := fun j u hu => (hb.out.cell (by rw [block_of_add, block_of_add]; exact hadl)).trans (hcv j u hu)
        have hsn := Lib.hid (encTs_take hk)
        have hle1 : (encTs (kids.take (i + 1))).length ≤ (encTs kids).length := encTs_le
        rw [encTs_take hk, List.length_append] at hle1
        have hbn := Blk.new wr 35 #[.int .i64 kd, .int .i64 nm, .string s2, .slice A2 m2 c2]
        have cp := Lib.hid (hkids k (List.mem_of_getElem? hk) w0 _ _ _ (wr.alloc (.cells #[.int .i64 kd, .int .i64 nm, .string s2, .slice A2 m2 c2] 35)) htk (by rw [List.length_append]; omega) (hown.out.alloc _) (hb.out.alloc hb.out.size _))
        clear hown hle1 hk htk hcv
        go_wp2_with (first
          | (refine wpList_load_at rfl 35 _ rfl (ad.add (i * 4)) rfl [.int .i64 kd, .int .i64 nm, .string s2, .slice A2 m2 c2] _ hcw Try.underlying35 rfl term_size ?_)
          | (refine wpList_store_fresh wr rfl 35 _ _ rfl _ #[.int .i64 kd, .int .i64 nm, .string s2, .slice A2 m2 c2] _ rfl rfl rfl term_size (ones4 _ _ _ _ _ _) ?_)
          | (refine wpList_load_at rfl 35 _ rfl ⟨wr.heap.size, 0, none⟩ rfl [.int .i64 kd, .int .i64 nm, .string s2, .slice A2 m2 c2] _ (blk_cells hbn) Try.underlying35 rfl term_size ?_))
        refine cp.out.mono ?_
        rintro _ w5 ⟨v5, rfl, hown5, hb5⟩
        have HO5 := Lib.hid hown5
        have HB5 := Lib.hid hb5
        clear hown5 hb5 cp
        go_wp2_with fail
        refine ⟨⟨i + 1, by omega, by go_num, ?_, HB5⟩, by simp [intOf]; omega⟩
        show World.ownsRow _ _ _ _ _ _ _
        rw [hsn.out, ← List.append_assoc]
        exact HO5.out
      · obtain rfl : i = kids.length := by omega
        go_wp2_with fail
        go_ret
        have h9 := hown.out
        rw [List.take_length] at h9
        refine ⟨_, rfl, ?_, hb.out⟩
        rw [HRe.out]
        exact h9
mutual
theorem puts_all : ∀ t : Tm, PutsOk t
  | .mk kind n s kids => puts_node kind n s kids (puts_each kids)
theorem puts_each : ∀ ks : List Tm, ∀ k ∈ ks, PutsOk k
  | [], k, h => by simp at h
  | x :: ks, k, h => by
    have h1 := puts_all x
    have h2 := puts_each ks
    rcases List.mem_cons.1 h with e | h
    · rw [e]; exact h1
    · exact h2 k h
end
end Go.Proofs.Ytekpdkjkkglcjaa
