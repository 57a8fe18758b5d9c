/- own.Texts and own.Value: copies in memory of their own. Condition: small values. -/
import Derived.Test.YtokgkifckgnabaaGreatDoorJf
import Derived.Laws.CopyOwn
set_option linter.unusedVariables false
set_option linter.unusedSimpArgs false
set_option maxRecDepth 20000
namespace Go.Proofs.YtokgkifckgnabaaGreatDoor
open Go.RowKit
mutual
/-- a value of sizes that a machine bears -/
def smJ : Jv → Prop
  | .mk k _ n s names kids => (-9223372036854775808 ≤ k ∧ k ≤ 9223372036854775807) ∧ (-9223372036854775808 ≤ n ∧ n ≤ 9223372036854775807) ∧ s.length ≤ 100000 ∧ names.length ≤ 100000 ∧ (∀ p ∈ names, p.length ≤ 100000) ∧ kids.length ≤ 100000 ∧ smJs kids
def smJs : List Jv → Prop
  | [] => True
  | k :: ks => smJ k ∧ smJs ks
end
theorem smJs_all : ∀ {ks : List Jv}, smJs ks → ∀ k ∈ ks, smJ k
  | [], _, k, h => by simp at h
  | x :: ks, h, k, hk => by
    rw [smJs] at h
    rcases List.mem_cons.1 hk with e | hk
    · rw [e]; exact h.1
    · exact smJs_all h.2 k hk
theorem smJs_of : ∀ {ks : List Jv}, (∀ k ∈ ks, smJ k) → smJs ks
  | [], _ => by rw [smJs]; trivial
  | x :: ks, h => by rw [smJs]; exact ⟨h x (by simp), smJs_of fun k hk => h k (by simp [hk])⟩
/-- the front of block g is xs; it has N cells -/
def RowOf (w : World) (g : Nat) (t : TypeId) (N : Nat) (xs : List Value) : Prop := ∃ cur : Array Value, Blk w g t cur ∧ cur.size = N ∧ ∀ (j : Nat) (u : Value), xs[j]? = some u → cur[j]? = some u
theorem RowOf.lt {w : World} {g N : Nat} {t : TypeId} {xs : List Value} (h : RowOf w g t N xs) : g < w.heap.size := by obtain ⟨cur, h, _⟩ := h; exact h.lt
theorem RowOf.below {w w' : World} {g N B : Nat} {t : TypeId} {xs : List Value} (h : RowOf w g t N xs) (hb : Below B w w') (hg : g < B) : RowOf w' g t N xs := by
  obtain ⟨cur, h1, h2⟩ := h
  exact ⟨cur, h1.below hb hg, h2⟩
theorem RowOf.grown {w w' : World} {g N : Nat} {t : TypeId} {xs : List Value} {row : Option Nat} (h : RowOf w g t N xs) (hb : w.grownBy w' row) (hg : some g ≠ row) : RowOf w' g t N xs := by
  obtain ⟨cur, h1, h2⟩ := h
  exact ⟨cur, h1.grown hb hg, h2⟩
theorem RowOf.reads {w : World} {g N n size : Nat} {t : TypeId} {xs : List Value} (h : RowOf w g t N xs) (hl : xs.length = n * size) : Reads w w.heap.size size (some ⟨g, 0, none⟩) n xs := by
  obtain ⟨cur, h1, h2, h3⟩ := h
  refine ⟨hl, fun _ => ⟨_, rfl, h1.lt, fun j u hu => ?_⟩⟩
  rw [add_zero_at, h1.cell]
  exact h3 j u hu
theorem RowOf.made (w : World) (t : TypeId) (z : Array Value) (N : Nat) : RowOf (w.alloc (.cells (madeCells z N) t)) w.heap.size t N [] := ⟨_, Blk.new w t _, size_madeCells _ _, fun j u hu => by simp at hu⟩
theorem wpList_store_row {ops : Array Oper} {rest : List Oper} {op : Oper} {a : Act} {w : World} {Q : Exit → Act → World → Prop} (hgd : op.guard = none) (ty : TypeId) (x y : Operand) (ho : op.op = .store ty x y)
    (g o N : Nat) (cells : Array Value) (t : TypeId) (xs : List Value) (hx : a.eval x = .pointer (some ⟨g, o, none⟩)) (hy : a.eval y = .agg cells) (hr : RowOf w g t N xs) (hxs : xs.length = o) (hfit : o + cells.size ≤ N)
    (hi : (Tryz.prog.info? ty).map (·.size) = some cells.size) (h1 : cells.all (·.oneCell') = true)
    (h : ∀ w', RowOf w' g t N (xs ++ cells.toList) → w.grownBy w' (some g) → wpList Tryz.prog ops Q rest (a.put op.dst undef) w') : wpList Tryz.prog ops Q (op :: rest) a w := by
  obtain ⟨cur, hb, hN, hc⟩ := hr
  refine wpList_store_mid hgd ty x y ho g o cells hx hy (fun j hj => ?_) hi h1 ?_
  · rw [hb.cell]
    exact ⟨by rw [Array.getElem?_eq_getElem (by omega)]; rfl, hb.frozen _⟩
  · rw [setCells_row g t cells.toList o _ cur hb]
    refine h _ ⟨_, hb.setRow, by rw [putAll_size]; exact hN, fun j u hu => ?_⟩ (setRow_only w g _)
    rw [putAll_at cells.toList o cur (by simp; omega)]
    by_cases hj : j < o
    · rw [if_neg (by omega)]
      rw [List.getElem?_append_left (by omega)] at hu
      exact hc j u hu
    · have hj2 : j < o + cells.toList.length := by
        have := (List.getElem?_eq_some_iff.1 hu).1
        simp at this ⊢; omega
      rw [if_pos ⟨by omega, hj2⟩]
      rw [List.getElem?_append_right (by omega), hxs] at hu
      exact hu
theorem blk_cells {w : World} {g : Nat} {t : TypeId} {cs : List Value} (h : Blk w g t cs.toArray) : ∀ j u, cs[j]? = some u → w.cell? ((⟨g, 0, none⟩ : Addr).add j) = some u := by
  intro j u hu
  rw [add_zero_at, h.cell]
  simpa using hu
theorem strVs_ones (ps : List (List UInt8)) : ∀ u ∈ strVs ps, u.oneCell' = true := by
  intro u hu
  obtain ⟨p, _, rfl⟩ := List.mem_map.1 hu
  rfl
theorem jv_ones (kind : Int) (b : Bool) (n : Int) (s : ByteArray) (NA : Option Addr) (nn nc : Nat) (A : Option Addr) (m c : Nat) : (#[Value.int .i64 kind, .bool b, .int .i64 n, .string s, .slice NA nn nc, .slice A m c]).all (·.oneCell') = true := by simp [Value.oneCell']
def TextsR (ps : List (List UInt8)) (w : World) (e : Ending) (w' : World) : Prop :=
  ∃ g : Nat, e = .returned (.slice (some ⟨g, 0, none⟩) ps.length ps.length) ∧ w.heap.size ≤ g ∧ Blk w' g 9 (strVs ps).toArray ∧ Below w.heap.size w w'
set_option maxHeartbeats 2000000 in
theorem list_walk (ps : List (List UInt8)) (A : Option Addr) (c S : Nat) (w : World) (hr : Reads w S 1 A ps.length (strVs ps)) (hn : ps.length ≤ 100000) (hS : S ≤ w.heap.size) :
    Calls Tryz.prog 85 #[.slice A ps.length c] w (TextsR ps w) := by
  obtain ⟨i0, hi, hz0, hz1, hz2⟩ := infoS4 info_string
  have hbr := Blk.new w 9 (madeCells #[.string ⟨#[]⟩] ps.length)
  have hbl := (Below.refl w.heap.size w).alloc (Nat.le_refl _) (.cells (madeCells #[.string ⟨#[]⟩] ps.length) 9)
  have HR := Lib.hid (hr.alloc hS (.cells (madeCells #[.string ⟨#[]⟩] ps.length) 9))
  have hsl : (strVs ps).length = ps.length := by simp [strVs]
  have hml := size_madeCells #[.string ⟨#[]⟩] ps.length
  rw [fillS_made] at hbr hbl HR hml
  have HBR : Hid ((w.alloc (.cells (fillS [] ps.length).toArray 9)).heap[w.heap.size]? = some (.cells (fillS [] ps.length).toArray 9 (0, 0))) := hbr
  have HBL := Lib.hid hbl
  have HSL := Lib.hid hsl
  have HML := Lib.hid hml
  have HP : Hid (0 < (strVs ps).length → (some (⟨w.heap.size, 0, none⟩ : Addr) = some ⟨w.heap.size, 0, none⟩) ∧ ∃ ad, A = some ad ∧ ∀ j v, (strVs ps)[j]? = some v → (w.alloc (.cells (fillS [] ps.length).toArray 9)).cell? (ad.add j) = some v) := fun h0 => ⟨rfl, by rw [HSL.out] at h0; obtain ⟨ad, e, _, hc⟩ := HR.out.2 h0; exact ⟨ad, e, hc⟩⟩
  clear hbr hbl hr hsl hml
  go_enter Tryz.func85, Tryz.ntmps85
  go_wp2_with (first
    | (refine wpList_make_row w rfl _ _ 24 rfl 9 i0 (.string ⟨#[]⟩) Tryz.underlying24 hi hz0 hz1 rfl .i64 .i64 ps.length rfl rfl (by rw [hz2]; omega) (by omega) ?_; rw [fillS_made])
    | ((with_reducible refine wpList_copy_splice rfl (.tmp 7) (.tmp 8) 24 24 rfl 9 Tryz.underlying24 (by kernel_rfl) _ _ _ _ _ _ rfl rfl w.heap.size 0 (fillS [] ps.length) 9 HBR.out (strVs ps) (by rw [HSL.out]; exact (Nat.min_self _).symm) HP.out (by rw [HSL.out, fillS_len (by simp)]; simp) (strVs_ones ps) w.heap.size w HBL.out (Nat.le_refl _) ?_); intro w2 hh2 hb2; go_frame))
  go_ret
  refine ⟨w.heap.size, rfl, Nat.le_refl _, ?_, hb2⟩
  have h := hh2.out
  have e : splice (fillS [] ps.length) 0 (strVs ps) = strVs ps := by
    simp [splice]
    rw [fillS_len (by simp), ← HSL.out]
    exact Nat.le_refl _
  rw [e] at h
  exact h
theorem texts_walk (ps : List (List UInt8)) (A : Option Addr) (c S : Nat) (w : World) (hr : Reads w S 1 A ps.length (strVs ps)) (hn : ps.length ≤ 100000) (hS : S ≤ w.heap.size) :
    Calls Tryz.prog 66 #[.slice A ps.length c] w (TextsR ps w) := by
  have cp := Lib.hid (list_walk ps A c S w hr hn hS)
  clear hr
  go_enter Tryz.func66, Tryz.ntmps66
  go_wp2_with fail
  refine cp.out.mono ?_
  rintro _ w1 ⟨g, rfl, h1, h2, h3⟩
  have H2 := Lib.hid h2
  clear h2
  go_wp2_with fail
  go_ret
  exact ⟨g, rfl, h1, H2.out, h3⟩
def OwnR (v : Jv) (w : World) (e : Ending) (w' : World) : Prop := ∃ cs, e = .returned (.agg cs.toArray) ∧ JvV w' w.heap.size v cs ∧ Below w.heap.size w w'
def OwnOk (v : Jv) : Prop := ∀ (cs : List Value) (w : World), smJ v → JvV w 0 v cs → Calls Tryz.prog 38 #[.agg cs.toArray] w (OwnR v w)
set_option maxHeartbeats 4000000 in
theorem own_node (k : Int) (b : Bool) (n : Int) (s : List UInt8) (names : List (List UInt8)) (kids : List Jv) (hok : ∀ x ∈ kids, OwnOk x) : OwnOk (.mk k b n s names kids) := by
  intro cs w hsm hy
  obtain ⟨i0, hi, hz0, hz1, hz2⟩ := infoS4 info_jv
  rw [smJ] at hsm
  obtain ⟨_, _, _, hs4, _, hs6, hs7⟩ := hsm
  rw [JvV] at hy
  obtain ⟨NA, nc, A, c, vs, rfl, h1, h2, h3, _, h5, _, h7⟩ := hy
  simp only [cells6, strV]
  generalize hx : (⟨s.toArray⟩ : ByteArray) = x at *
  have HX := Lib.hid hx
  clear hx
  have hmk : ∀ W : World, (Instr.makeSlice 25 (.int .i64 (kids.length : Int)) (.int .i64 (kids.length : Int))).run Tryz.prog W = .ok (.slice (some ⟨W.heap.size, 0, none⟩) kids.length kids.length) (W.alloc (.cells (madeCells (cells6 0 false 0 [] none 0 0 none 0 0).toArray (kids.length * 6)) 27)) := fun W => by
    have := run_make (P := Tryz.prog) W 25 27 i0 _ Tryz.underlying25 hi hz0 .i64 .i64 (kids.length : Int) (kids.length : Int) (by omega) (by omega) (by rw [hz2]; omega) (by omega)
    rw [hz1] at this
    simp only [Int.toNat_natCast] at this
    exact this
  have hw1 : (w.alloc (.cells #[.int .i64 k, .bool b, .int .i64 n, .string x, .slice NA names.length nc, .slice A kids.length c] 27)).heap.size = w.heap.size + 1 := by simp
  have hb1 := (Below.refl w.heap.size w).alloc (Nat.le_refl _) (.cells #[.int .i64 k, .bool b, .int .i64 n, .string x, .slice NA names.length nc, .slice A kids.length c] 27)
  have HB2 := Lib.hid (hb1.alloc hb1.size (.cells #[.int .i64 0, .bool false, .int .i64 0, .string ⟨#[]⟩, .slice none 0 0, .slice none 0 0] 27))
  have HK1 := Lib.hid ((Blk.new w 27 #[.int .i64 k, .bool b, .int .i64 n, .string x, .slice NA names.length nc, .slice A kids.length c]).alloc (.cells #[.int .i64 0, .bool false, .int .i64 0, .string ⟨#[]⟩, .slice none 0 0, .slice none 0 0] 27))
  have hk2 := Blk.new (w.alloc (.cells #[.int .i64 k, .bool b, .int .i64 n, .string x, .slice NA names.length nc, .slice A kids.length c] 27)) 27 #[.int .i64 0, .bool false, .int .i64 0, .string ⟨#[]⟩, .slice none 0 0, .slice none 0 0]
  rw [hw1] at hk2
  have HK2 := Lib.hid hk2
  have cp := Lib.hid (fun W (hW : Below w.heap.size w W) => texts_walk names NA nc w.heap.size W (h3.below hW |>.more (Nat.le_refl _) |> fun h => ⟨h.1, fun h0 => by obtain ⟨ad, e, hb, hc⟩ := h3.2 h0; exact ⟨ad, e, hb, fun j u hu => (hW.cell (by rw [block_of_add]; exact hb)).trans (hc j u hu)⟩⟩) hs4 hW.size)
  clear hb1 hk2 hw1
  go_enter Tryz.func38, Tryz.ntmps38
  go_wp2_with fail
  refine (cp.out _ HB2.out).mono ?_
  rintro _ w1 ⟨g1, rfl, hg1, hbk1, hbn⟩
  have HBN := Lib.hid (below_next HB2.out hbn)
  have HL1 := Lib.hid (HK1.out.below hbn HK1.out.lt)
  have HL2 := Lib.hid (HK2.out.below hbn HK2.out.lt)
  have HBK1 := Lib.hid hbk1
  have hs0 := HBN.out.size
  have hsz1 : w.heap.size + 1 < w1.heap.size := HL2.out.lt
  have hfz := HL1.out.frozen 4
  have c4 : w1.cell? ⟨w.heap.size, 4, none⟩ = some (.slice NA names.length nc) := HL1.out.cell 4
  obtain ⟨w2, hw2⟩ : ∃ w2, w1.setCell ⟨w.heap.size, 4, none⟩ (.slice (some ⟨g1, 0, none⟩) names.length names.length) = w2 := ⟨_, rfl⟩
  have hset := HL1.out.set_ 4 (.slice (some ⟨g1, 0, none⟩) names.length names.length)
  have hz22 : w2.heap.size = w1.heap.size := by rw [← hw2]; simp
  rw [hw2] at hset
  have HM1 : Hid (Blk w2 w.heap.size 27 #[.int .i64 k, .bool b, .int .i64 n, .string x, .slice (some ⟨g1, 0, none⟩) names.length names.length, .slice A kids.length c]) := hset
  have HM2 : Hid (Blk w2 (w.heap.size + 1) 27 #[.int .i64 0, .bool false, .int .i64 0, .string ⟨#[]⟩, .slice none 0 0, .slice none 0 0]) := by
    show Blk _ _ _ _
    rw [← hw2]; exact HL2.out.far (p := ⟨w.heap.size, 4, none⟩) (by simp) _
  have HM3 : Hid (Blk w2 g1 9 (strVs names).toArray) := by
    show Blk _ _ _ _
    rw [← hw2]; exact HBK1.out.far (p := ⟨w.heap.size, 4, none⟩) (by simp at hg1 ⊢; omega) _
  have HMB : Hid (Below w.heap.size w w2) := by
    show Below _ _ _
    rw [← hw2]; exact HBN.out.setCell (Nat.le_refl _) _
  have c5 : w2.cell? ⟨w.heap.size, 5, none⟩ = some (.slice A kids.length c) := HM1.out.cell 5
  have HW2 := Lib.hid hw2
  have hg1' : w.heap.size + 1 < g1 := by simp at hg1; omega
  clear cp HB2 HK1 HK2 hbk1 hbn hset HL1 HL2 HBN HBK1 hg1
  have HMA := Lib.hid (HM1.out.alloc (.cells (madeCells (cells6 0 false 0 [] none 0 0 none 0 0).toArray (kids.length * 6)) 27))
  have HMA2 := Lib.hid (HM2.out.alloc (.cells (madeCells (cells6 0 false 0 [] none 0 0 none 0 0).toArray (kids.length * 6)) 27))
  have HMA3 := Lib.hid (HM3.out.alloc (.cells (madeCells (cells6 0 false 0 [] none 0 0 none 0 0).toArray (kids.length * 6)) 27))
  have HMAB := Lib.hid (HMB.out.alloc HMB.out.size (.cells (madeCells (cells6 0 false 0 [] none 0 0 none 0 0).toArray (kids.length * 6)) 27))
  have HROW := Lib.hid (RowOf.made w2 27 (cells6 0 false 0 [] none 0 0 none 0 0).toArray (kids.length * 6))
  have c5b : (w2.alloc (.cells (madeCells (cells6 0 false 0 [] none 0 0 none 0 0).toArray (kids.length * 6)) 27)).cell? ⟨w.heap.size, 5, none⟩ = some (.slice A kids.length c) := HMA.out.cell 5
  have hg2 : g1 < w2.heap.size := HM3.out.lt
  clear hz22 HM1 HM2 HM3 HMB
  go_wp2_with fail
  clear hw2 c4 hfz c5 c5b
  go_loopw [17] (fun iv wr => ∃ (i : Nat) (us : List (List Value)), i ≤ kids.length ∧ iv = .int .i64 i ∧ us.length = i ∧ Hid (Below w.heap.size w wr) ∧ Hid (Blk wr w.heap.size 27 #[.int .i64 k, .bool b, .int .i64 n, .string x, .slice (some ⟨g1, 0, none⟩) names.length names.length, .slice A kids.length c]) ∧ Hid (Blk wr (w.heap.size + 1) 27 #[.int .i64 0, .bool false, .int .i64 0, .string ⟨#[]⟩, .slice none 0 0, .slice none 0 0]) ∧ Hid (Blk wr g1 9 (strVs names).toArray) ∧ Hid (RowOf wr w2.heap.size 27 (kids.length * 6) us.flatten) ∧ Hid (JvsV wr (w2.heap.size + 1) (kids.take i) us)) (fun iv _ => kids.length - (intOf iv).toNat)
  case atStart => exact ⟨0, [], by omega, rfl, rfl, HMAB, HMA, HMA2, HMA3, HROW, by show JvsV _ _ _ _; rw [List.take_zero, JvsV]⟩
  case round =>
    clear HMAB HMA HMA2 HMA3 HROW
    obtain ⟨i, us, hik, rfl, hlen, hb, hk1, hk2, hk3, hrow, hjs⟩ := hrel
    by_cases hlt : i < kids.length
    · obtain ⟨kd, hkd⟩ : ∃ a, kids[i]? = some a := ⟨kids[i], List.getElem?_eq_getElem hlt⟩
      obtain ⟨ad, v, rfl, hva, hcv⟩ := jkid_at h7 h5 hkd
      have hadl := reads_near h5 (by omega) rfl
      have hkm := List.mem_of_getElem? hkd
      have cp := Lib.hid (fun W (hW : Below w.heap.size w W) => hok kd hkm v W (smJs_all hs7 kd hkm) (hva.below hW))
      have hcv2 : ∀ j x, v[j]? = some x → wr.cell? ((ad.add (i * 6)).add j) = some x := fun j x hx => (hb.out.cell (by rw [block_of_add, block_of_add]; exact hadl)).trans (hcv j x hx)
      obtain ⟨k1, b1, n1, s1, NA1, nn1, nc1, A1, m1, c1, rfl⟩ := hva.form
      have HC1 := Lib.hid hcv2
      have hbx := Lib.hid (hb.out.alloc hb.out.size (.cells #[.int .i64 k1, .bool b1, .int .i64 n1, .string s1, .slice NA1 nn1 nc1, .slice A1 m1 c1] 27))
      have hx1 := Lib.hid (Blk.new wr 27 #[.int .i64 k1, .bool b1, .int .i64 n1, .string s1, .slice NA1 nn1 nc1, .slice A1 m1 c1])
      clear hcv hcv2 hva
      go_wp2_with (first
        | (refine wpList_load_at rfl 27 _ rfl (ad.add (i * 6)) rfl [.int .i64 k1, .bool b1, .int .i64 n1, .string s1, .slice NA1 nn1 nc1, .slice A1 m1 c1] _ HC1.out Tryz.underlying27 rfl jv_size ?_))
      refine (cp.out _ hbx.out).mono ?_
      rintro _ w5 ⟨cs5, rfl, hv5, hb5⟩
      obtain ⟨k2, b2, n2, s2, NA2, nn2, nc2, A2, m2, c2, rfl⟩ := hv5.form
      have hwz : (wr.alloc (.cells #[.int .i64 k1, .bool b1, .int .i64 n1, .string s1, .slice NA1 nn1 nc1, .slice A1 m1 c1] 27)).heap.size = wr.heap.size + 1 := by simp
      rw [hwz] at hv5 hb5
      have hrl := hrow.out.lt
      have hbb := ((Below.refl wr.heap.size wr).alloc (Nat.le_refl _) (.cells #[.int .i64 k1, .bool b1, .int .i64 n1, .string s1, .slice NA1 nn1 nc1, .slice A1 m1 c1] 27)).trans (hb5.mono (Nat.le_succ _))
      have HB5 := Lib.hid (below_next hb.out hbb)
      have HK1 := Lib.hid (hk1.out.below hbb hk1.out.lt)
      have HK2 := Lib.hid (hk2.out.below hbb hk2.out.lt)
      have HK3 := Lib.hid (hk3.out.below hbb hk3.out.lt)
      have HROW5 := Lib.hid (hrow.out.below hbb hrl)
      have HJ5 := Lib.hid (hjs.out.below hbb)
      have HV5 := Lib.hid (hv5.low (lo' := w2.heap.size + 1) (by omega))
      have hfl : us.flatten.length = i * 6 := by
        have := jvs_flat hjs.out
        rw [List.length_take, Nat.min_eq_left (by omega)] at this
        exact this
      have HTK : Hid (kids.take (i + 1) = kids.take i ++ [kd]) := by show _ = _; rw [List.take_add_one, hkd]; rfl
      have hsz9 := HB5.out.size
      clear hwz hv5 hb5 hbb hb hk1 hk2 hk3 hrow hjs hbx hx1 cp HC1 hkd
      go_wp2_with (first
        | ((refine wpList_store_row rfl 27 _ _ rfl w2.heap.size (i * 6) (kids.length * 6) _ 27 us.flatten rfl rfl HROW5.out hfl (by simp; omega) jv_size (jv_ones _ _ _ _ _ _ _ _ _ _) ?_); intro w6 hr6 hg6; go_frame))
      have HR6 : Hid (RowOf w6 w2.heap.size 27 (kids.length * 6) (us ++ [[Value.int .i64 k2, .bool b2, .int .i64 n2, .string s2, .slice NA2 nn2 nc2, .slice A2 m2 c2]]).flatten) := by
        show RowOf _ _ _ _ _
        rw [List.flatten_append]
        simpa using hr6
      have HJ6 : Hid (JvsV w6 (w2.heap.size + 1) (kids.take (i + 1)) (us ++ [[Value.int .i64 k2, .bool b2, .int .i64 n2, .string s2, .slice NA2 nn2 nc2, .slice A2 m2 c2]])) := by
        show JvsV _ _ _ _
        rw [HTK.out]
        exact JvsV.snoc (HV5.out.grown hg6 (fun q e => by injection e with e; omega)) (HJ5.out.grown hg6 (fun q e => by injection e with e; omega))
      have HB6 := Lib.hid (HB5.out.grown hg6 HB5.out.size (fun q e => by injection e with e; omega))
      have HL1 := Lib.hid (HK1.out.grown hg6 (fun e => by injection e with e; omega))
      have HL2 := Lib.hid (HK2.out.grown hg6 (fun e => by injection e with e; omega))
      have HL3 := Lib.hid (HK3.out.grown hg6 (fun e => by injection e with e; omega))
      clear hr6 hg6 HB5 HK1 HK2 HK3 HROW5 HJ5 HV5 HTK
      exact ⟨⟨i + 1, _, by omega, by go_num, by simp [hlen], HB6, HL1, HL2, HL3, HR6, HJ6⟩, by simp [intOf]; omega⟩
    · obtain rfl : i = kids.length := by omega
      have hfz := hk1.out.frozen 5
      have c5 : wr.cell? ⟨w.heap.size, 5, none⟩ = some (.slice A kids.length c) := hk1.out.cell 5
      obtain ⟨w3, hw3⟩ : ∃ w3, wr.setCell ⟨w.heap.size, 5, none⟩ (.slice (some ⟨w2.heap.size, 0, none⟩) kids.length kids.length) = w3 := ⟨_, rfl⟩
      have hset := hk1.out.set_ 5 (.slice (some ⟨w2.heap.size, 0, none⟩) kids.length kids.length)
      have hrg : wr.grownBy w3 (some w.heap.size) := by rw [← hw3]; exact ⟨rfl, rfl, rfl, by simp, fun q _ hne => Below.heap_setCell _ _ _ _ (fun e => hne (by rw [e]))⟩
      rw [hw3] at hset
      have HX3 : Hid (Blk w3 w.heap.size 27 [.int .i64 k, .bool b, .int .i64 n, .string x, .slice (some ⟨g1, 0, none⟩) names.length names.length, .slice (some ⟨w2.heap.size, 0, none⟩) kids.length kids.length].toArray) := hset
      have HL2 := Lib.hid (hk2.out.grown hrg (fun e => by injection e with e; omega))
      have HL3 := Lib.hid (hk3.out.grown hrg (fun e => by injection e with e; omega))
      have HR3 := Lib.hid (hrow.out.grown hrg (fun e => by injection e with e; omega))
      have hjs2 := hjs.out
      rw [List.take_length] at hjs2
      have HJ3 := Lib.hid (hjs2.grown hrg (fun q e => by injection e with e; omega))
      have HB3 := Lib.hid (hb.out.grown hrg hb.out.size (fun q e => by injection e with e; omega))
      clear hset hrg hjs2 hb hk1 hk2 hk3 hrow hjs
      go_wp2_with (first
        | (refine wpList_load_at rfl 27 _ rfl ⟨w.heap.size, 0, none⟩ rfl [.int .i64 k, .bool b, .int .i64 n, .string x, .slice (some ⟨g1, 0, none⟩) names.length names.length, .slice (some ⟨w2.heap.size, 0, none⟩) kids.length kids.length] _ (blk_cells HX3.out) Tryz.underlying27 rfl jv_size ?_)
        | (refine wpList_store_blk rfl 27 _ _ rfl (w.heap.size + 1) _ _ 27 rfl rfl HL2.out rfl jv_size (jv_ones _ _ _ _ _ _ _ _ _ _) ?_))
      refine bodyPost_ret (results_cell_row Tryz.results38 _ _ (w.heap.size + 1) _ _ _ _ rfl HL2.out.setRow Tryz.underlying27 rfl (by kernel_rfl)) rfl ⟨[.int .i64 k, .bool b, .int .i64 n, .string x, .slice (some ⟨g1, 0, none⟩) names.length names.length, .slice (some ⟨w2.heap.size, 0, none⟩) kids.length kids.length], rfl, ?_, below_setRow HB3.out (by omega) _⟩
      have hgr := setRow_only w3 (w.heap.size + 1) #[.int .i64 k, .bool b, .int .i64 n, .string x, .slice (some ⟨g1, 0, none⟩) names.length names.length, .slice (some ⟨w2.heap.size, 0, none⟩) kids.length kids.length]
      have hN := HL3.out.grown hgr (fun e => by injection e with e; omega)
      have hR := HR3.out.grown hgr (fun e => by injection e with e; omega)
      have hJ := HJ3.out.grown hgr (fun q e => by injection e with e; omega)
      rw [JvV]
      refine ⟨some ⟨g1, 0, none⟩, names.length, some ⟨w2.heap.size, 0, none⟩, kids.length, us, by rw [← HX.out]; rfl, ⟨Nat.le_refl _, by omega⟩, ⟨Nat.le_refl _, by omega⟩, ?_, fun _ ad e => by injection e with e; subst e; simp; omega, hR.reads (by rw [jvs_flat hJ]), fun _ ad e => by injection e with e; subst e; simp; omega, hJ.low (by omega)⟩
      refine ⟨by simp [strVs], fun _ => ⟨_, rfl, hN.lt, fun j u hu => ?_⟩⟩
      rw [add_zero_at, hN.cell]
      simpa using hu
mutual
theorem own_all : ∀ t : Jv, OwnOk t
  | .mk k b n s names kids => own_node k b n s names kids (own_each kids)
theorem own_each : ∀ ks : List Jv, ∀ k ∈ ks, OwnOk k
  | [], k, h => by simp at h
  | x :: ks, k, h => by
    have h1 := own_all x
    have h2 := own_each ks
    rcases List.mem_cons.1 h with e | h
    · rw [e]; exact h1
    · exact h2 k h
end
end Go.Proofs.YtokgkifckgnabaaGreatDoor
