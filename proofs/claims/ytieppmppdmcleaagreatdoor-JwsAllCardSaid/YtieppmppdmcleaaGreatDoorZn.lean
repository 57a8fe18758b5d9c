/- A raw JSON value read out of memory; Few. -/
import Derived.Deep.Slices
import Derived.Test.YtieppmppdmcleaaGreatDoorB6
set_option linter.unusedVariables false
set_option linter.unusedSimpArgs false
set_option maxRecDepth 20000
namespace Go.Proofs.YtieppmppdmcleaaGreatDoor
section
open Go.RowKit Go.ChangeShapes Go.WideShapes Go.ChangeAt
mutual
def okJ : Jv → Prop
 | .mk k _ n s names kids => (-9223372036854775808 ≤ k ∧ k ≤ 9223372036854775807) ∧ (-9223372036854775808 ≤ n ∧ n ≤ 9223372036854775807) ∧ s.length ≤ 9223372036854775807 ∧ (∀ p ∈ names, p.length ≤ 9223372036854775807) ∧ okJs kids
def okJs : List Jv → Prop
 | [] => True
 | k :: ks => okJ k ∧ okJs ks
end
theorem okJs_all : ∀ {ks : List Jv}, okJs ks → ∀ k ∈ ks, okJ k
 | [], _, k, h => by simp at h
 | x :: ks, h, k, hk => by
  rw [okJs] at h
  rcases List.mem_cons.1 hk with e | hk
  ·
   rw [e]; exact h.1
  ·
   exact okJs_all h.2 k hk
theorem okJs_of : ∀ {ks : List Jv}, (∀ k ∈ ks, okJ k) → okJs ks
 | [], _ => by rw [okJs]; trivial
 | x :: ks, h => by rw [okJs]; exact ⟨h x (by simp), okJs_of fun k hk => h k (by simp [hk])⟩
section
variable {H : Type} {enc : TypeId × Value → H} {w : World} {base : Nat} {spare : Nat → Bool} {held : Bool}
theorem cellj_int {n : Nat} {c : Value} {x : DataW H × List MemPlace} (h : DataW.trod enc Tryz.prog w base spare held n 3 [c] = some x) : ∃ v, c = .int .i64 v ∧ -9223372036854775808 ≤ v ∧ v ≤ 9223372036854775807 := by
 obtain ⟨v, hv, _, hw⟩ := DataW.trod_int Tryz.underlying3 h
 injection hv with e _
 exact ⟨v, e, i64_wf hw⟩
theorem cellj_bool {n : Nat} {c : Value} {x : DataW H × List MemPlace} (h : DataW.trod enc Tryz.prog w base spare held n 4 [c] = some x) : ∃ v, c = .bool v := by
 obtain ⟨v, hv, _⟩ := DataW.trod_bool Tryz.underlying4 h
 injection hv with e _
 exact ⟨v, e⟩
theorem cellj_string {n : Nat} {c : Value} {x : DataW H × List MemPlace} (h : DataW.trod enc Tryz.prog w base spare held n 9 [c] = some x) : ∃ l : List UInt8, c = strV l ∧ l.length ≤ 9223372036854775807 := by
 obtain ⟨v, hv, _, hm⟩ := DataW.trod_string Tryz.underlying9 h
 injection hv with e _
 exact ⟨v.data.toList, by rw [e, strV], by simpa [maxLen] using hm⟩
theorem cellsj_int : Tryz.prog.cellsOf 3 = 1 := by kernel_rfl
theorem cellsj_bool : Tryz.prog.cellsOf 4 = 1 := by kernel_rfl
theorem cellsj_string : Tryz.prog.cellsOf 9 = 1 := by kernel_rfl
theorem cellsj_strs : Tryz.prog.cellsOf 23 = 1 := by kernel_rfl
theorem cellsj_vals : Tryz.prog.cellsOf 24 = 1 := by kernel_rfl
theorem cellsj_val : Tryz.prog.cellsOf 26 = 6 := by kernel_rfl
theorem some_ofj {α : Type} {l : List α} {i : Nat} (h : i < l.length) : ∃ x, l[i]? = some x := ⟨l[i], List.getElem?_eq_getElem h⟩
theorem cellj_lt {w : World} {a : Addr} {v : Value} (h : w.cell? a = some v) : a.block < w.heap.size := by
 unfold World.cell? at h
 rcases Nat.lt_or_ge a.block w.heap.size with hl | hl
 ·
  exact hl
 ·
  rw [Array.getElem?_eq_none hl] at h
  simp at h
theorem jvs_map {w : World} {lo : Nat} (f : Nat → Jv × List Value) : ∀ is : List Nat, (∀ i ∈ is, JvV w lo (f i).1 (f i).2) → JvsV w lo (is.map fun i => (f i).1) (is.map fun i => (f i).2)
 | [], _ => by simp only [List.map_nil]; rw [JvsV]
 | i :: is, h => by
  simp only [List.map_cons]
  rw [JvsV]
  exact ⟨_, _, rfl, h i (by simp), jvs_map f is fun j hj => h j (by simp [hj])⟩
theorem strs_trod {n : Nat} {c : Value} {x : DataW H × List MemPlace} (h : DataW.trod enc Tryz.prog w base spare held n 23 [c] = some x) :
  ∃ (names : List (List UInt8)) (NA : Option Addr) (nc : Nat), c = .slice NA names.length nc ∧ (names.length ≤ nc ∧ nc ≤ 9223372036854775807) ∧ Reads w w.heap.size 1 NA names.length (strVs names) ∧ ∀ p ∈ names, p.length ≤ 9223372036854775807 := by
 rcases DataW.trod_slice Tryz.underlying23 h with ⟨h0, _⟩ | ⟨a, len, cap, elems, rest, k2, hk2, h0, _, hb, hle, hmx, hel, hx, _, _⟩
 ·
  injection h0 with h0
  subst h0
  exact ⟨[], none, 0, rfl, ⟨Nat.le_refl _, by omega⟩, Reads.none_, by simp⟩
 ·
  injection h0 with h0
  subst h0
  have hmx2 : cap ≤ 9223372036854775807 := by simpa [maxLen] using hmx
  rw [cellsj_string] at hx
  obtain ⟨f, hf⟩ := Go.Deep.choose_lt (α := List UInt8) (p := fun i l => w.cell? (a.add i) = some (strV l) ∧ l.length ≤ 9223372036854775807) (fun i (hi : i < len) => by
   have h1 := hx i hi
   rw [List.getElem?_eq_getElem (by omega)] at h1
   obtain ⟨cs', h2, h3⟩ := Option.bind_eq_some_iff.1 h1
   obtain ⟨hl, _, h4⟩ := World.cells?_some h2
   match cs', hl with
   | [u], _ =>
    obtain ⟨l, rfl, hll⟩ := cellj_string h3
    have h5 := h4 0 (by omega)
    rw [Nat.mul_one] at h5
    exact ⟨l, by simpa [Addr.add] using h5, hll⟩)
  refine ⟨(List.range len).map f, some a, cap, by simp, ⟨by simpa using hle, hmx2⟩, ⟨by simp [strVs], fun h0 => ⟨a, rfl, ?_, fun j u hu => ?_⟩⟩, fun p hp => ?_⟩
  ·
   have hl1 : 0 < len := by simpa using h0
   have := cellj_lt (hf 0 hl1).1
   simpa [block_of_add] using this
  ·
   have hj : j < len := by have := (List.getElem?_eq_some_iff.1 hu).1; simpa [strVs] using this
   have e : (strVs ((List.range len).map f))[j]? = some (strV (f j)) := by
    rw [strVs, List.getElem?_map, List.getElem?_map, List.getElem?_range hj]; rfl
   rw [e] at hu
   injection hu with hu
   rw [← hu]
   exact (hf j hj).1
  ·
   obtain ⟨i, hi, rfl⟩ := List.mem_map.1 hp
   exact (hf i (by simpa using hi)).2
theorem val_trod : ∀ (n : Nat) (cs : List Value) (x : DataW H × List MemPlace), DataW.trod enc Tryz.prog w base spare held n 26 cs = some x → ∃ v, JvV w 0 v cs ∧ okJ v := by
 intro n
 induction n using Nat.strongRecOn with
 | ind n ih =>
  intro cs x h
  obtain ⟨xs, k, hk, _, hlen, hl, hf⟩ := DataW.trod_struct Tryz.underlying26 h
  rw [cellsj_val] at hlen
  obtain ⟨x0, e0⟩ := some_ofj (l := xs) (i := 0) (by rw [hl]; decide)
  obtain ⟨x1, e1⟩ := some_ofj (l := xs) (i := 1) (by rw [hl]; decide)
  obtain ⟨x2, e2⟩ := some_ofj (l := xs) (i := 2) (by rw [hl]; decide)
  obtain ⟨x3, e3⟩ := some_ofj (l := xs) (i := 3) (by rw [hl]; decide)
  obtain ⟨x4, e4⟩ := some_ofj (l := xs) (i := 4) (by rw [hl]; decide)
  obtain ⟨x5, e5⟩ := some_ofj (l := xs) (i := 5) (by rw [hl]; decide)
  have g0 := (hf 0 _ rfl).trans e0
  have g1 := (hf 1 _ rfl).trans e1
  have g2 := (hf 2 _ rfl).trans e2
  have g3 := (hf 3 _ rfl).trans e3
  have g4 := (hf 4 _ rfl).trans e4
  have g5 := (hf 5 _ rfl).trans e5
  clear hf e0 e1 e2 e3 e4 e5
  match cs, hlen with
  | [c0, c1, c2, c3, c4, c5], _ =>
   simp only [List.getElem_toArray, List.getElem_cons_zero, List.getElem_cons_succ, cellsj_int, cellsj_bool, cellsj_string, cellsj_strs, cellsj_vals, List.drop_zero, List.drop_succ_cons, List.take_succ_cons, List.take_zero] at g0 g1 g2 g3 g4 g5
   obtain ⟨v0, rfl, r0⟩ := cellj_int g0
   obtain ⟨v1, rfl⟩ := cellj_bool g1
   obtain ⟨v2, rfl, r2⟩ := cellj_int g2
   obtain ⟨v3, rfl, r3⟩ := cellj_string g3
   obtain ⟨names, NA, nc, rfl, hnc, hnr, hns⟩ := strs_trod g4
   rcases DataW.trod_slice Tryz.underlying24 g5 with ⟨h0, _⟩ | ⟨a, len, cap, elems, rest, k2, hk2, h0, _, hb, hle, hmx, hel, hx, _, _⟩
   ·
    injection h0 with h0
    subst h0
    refine ⟨.mk v0 v1 v2 v3 names [], ?_, ?_⟩
    ·
     rw [JvV]
     exact ⟨NA, nc, none, 0, [], rfl, hnc, ⟨Nat.le_refl _, by omega⟩, hnr, fun _ _ _ => Nat.zero_le _, Reads.none_, fun h => absurd h (by simp), by rw [JvsV]⟩
    ·
     rw [okJ]
     exact ⟨r0, r2, r3, hns, by rw [okJs]; trivial⟩
   ·
    injection h0 with h0
    subst h0
    have hmx2 : cap ≤ 9223372036854775807 := by simpa [maxLen] using hmx
    rw [cellsj_val] at hx
    obtain ⟨f, hfx⟩ := Go.Deep.choose_lt (α := Jv × List Value) (p := fun i r => w.cells? base (a.add (i * 6)) 6 = some r.2 ∧ JvV w 0 r.1 r.2 ∧ okJ r.1) (fun i (hi : i < len) => by
     have h1 := hx i hi
     rw [List.getElem?_eq_getElem (by omega)] at h1
     obtain ⟨cs', h2, h3⟩ := Option.bind_eq_some_iff.1 h1
     obtain ⟨t, ht⟩ := ih k2 (by omega) cs' _ h3
     exact ⟨(t, cs'), h2, ht⟩)
    have hts := jvs_map (w := w) (lo := 0) f (List.range len) fun i hi => (hfx i (by simpa using hi)).2.1
    have hfl := jvs_flat hts
    rw [List.length_map, List.length_range] at hfl
    refine ⟨.mk v0 v1 v2 v3 names ((List.range len).map fun i => (f i).1), ?_, ?_⟩
    ·
     rw [JvV]
     refine ⟨NA, nc, some a, cap, (List.range len).map fun i => (f i).2, by simp [cells6], hnc, ⟨by simpa using hle, hmx2⟩, hnr, fun _ _ _ => Nat.zero_le _, ⟨by rw [hfl, List.length_map, List.length_range], fun hl0 => ?_⟩, fun _ _ _ => Nat.zero_le _, hts⟩
     have hl1 : 0 < len := by simpa using hl0
     refine ⟨a, rfl, ?_, fun j u hu => ?_⟩
     ·
      obtain ⟨_, h2, h3⟩ := World.cells?_some (hfx 0 hl1).1
      have h4 := h3 0 (by omega)
      rw [List.getElem?_eq_getElem (by omega)] at h4
      simpa [block_of_add] using cellj_lt h4
     ·
      have hj : j < len * 6 := by rw [← hfl]; exact (List.getElem?_eq_some_iff.1 hu).1
      obtain ⟨_, h2, h3⟩ := World.cells?_some (hfx (j / 6) (by omega)).1
      have h4 := h3 (j % 6) (by omega)
      have h5 : ((List.range len).map fun i => (f i).2)[j / 6]? = some (f (j / 6)).2 := by
       rw [List.getElem?_map, List.getElem?_range (by omega)]; rfl
      have h6 : (f (j / 6)).2[j % 6]? = some ((f (j / 6)).2[j % 6]'(by omega)) := List.getElem?_eq_getElem (by omega)
      have h7 := flat6 hts h5 _ _ h6
      rw [show j / 6 * 6 + j % 6 = j by omega, hu] at h7
      injection h7 with h7
      rw [h7, ← h6, ← h4, add_of_add, show j / 6 * 6 + j % 6 = j by omega]
    ·
     rw [okJ]
     refine ⟨r0, r2, r3, hns, okJs_of fun k hk => ?_⟩
     obtain ⟨i, hi, rfl⟩ := List.mem_map.1 hk
     exact (hfx i (by simpa using hi)).2.2
end
end
section
open Go.RowKit
def nszJ (ps : List (List UInt8)) : Nat := (ps.map fun p => p.length + 1).sum
theorem nsz_more {ps : List (List UInt8)} {i : Nat} {p : List UInt8} (h : ps[i]? = some p) : nszJ (ps.take (i + 1)) = nszJ (ps.take i) + (p.length + 1) := by
 rw [List.take_add_one, h]
 simp [nszJ]
theorem szJs_app : ∀ (a b : List Jv), szJs (a ++ b) = szJs a + szJs b
 | [], b => by rw [List.nil_append, szJs]; omega
 | x :: a, b => by rw [List.cons_append, szJs, szJs, szJs_app a b]; omega
theorem szJs_more {ks : List Jv} {i : Nat} {k : Jv} (h : ks[i]? = some k) : szJs (ks.take (i + 1)) = szJs (ks.take i) + szJ k := by
 rw [List.take_add_one, h, szJs_app]
 simp [szJs]
def FewJ (v : Jv) : Prop := ∀ (cs : List Value) (left : Nat) (w : World), left ≤ 3000 → okJ v → JvV w 0 v cs →
 Calls Tryz.prog 8 #[.agg cs.toArray, .int .i64 (left : Int)] w fun e w' => (∃ n : Int, e = .returned (.int .i64 n) ∧ n ≤ 3000 ∧ (0 ≤ n → (szJ v : Int) + n ≤ left)) ∧ Below w.heap.size w w'
set_option maxHeartbeats 4000000 in
theorem fewj_node (kind : Int) (b : Bool) (n : Int) (s : List UInt8) (names : List (List UInt8)) (kids : List Jv) (hkids : ∀ k ∈ kids, FewJ k) : FewJ (.mk kind b n s names kids) := by
 intro cs left w hl3 hok ht
 rw [JvV] at ht
 obtain ⟨NA, nc, A, c, vs, rfl, h1, h2, h3, _, h5, _, h7⟩ := ht
 rw [okJ] at hok
 obtain ⟨_, _, hs, hns, hks⟩ := hok
 have HKS := Lib.hid (okJs_all hks)
 have H3 := Lib.hid h3
 have H5 := Lib.hid h5
 have H7 := Lib.hid h7
 have HNS := Lib.hid hns
 have HKD := Lib.hid hkids
 have hSZ : Hid (szJ (.mk kind b n s names kids) = 1 + s.length + nszJ names + szJs kids) := by show _ = _; rw [szJ]; rfl
 clear h3 h5 h7 hns hks hkids
 rw [cells6]
 show Calls _ _ #[.agg #[.int .i64 kind, .bool b, .int .i64 n, .string ⟨s.toArray⟩, .slice NA names.length nc, .slice A kids.length c], .int .i64 left] _ _
 obtain ⟨z, hz, hzs⟩ : ∃ z : ByteArray, (⟨s.toArray⟩ : ByteArray) = z ∧ z.size = s.length := ⟨⟨s.toArray⟩, rfl, List.size_toArray⟩
 rw [hz]
 rw [← hzs] at hs
 have HZ := Lib.hid hzs
 clear hz hzs
 have hb1 := Lib.hid ((Below.refl w.heap.size w).alloc (Nat.le_refl _) (.cells #[.int .i64 kind, .bool b, .int .i64 n, .string z, .slice NA names.length nc, .slice A kids.length c] 26))
 have hbx := Blk.new w 26 #[.int .i64 kind, .bool b, .int .i64 n, .string z, .slice NA names.length nc, .slice A kids.length c]
 have HX := Lib.hid hbx
 have c2 : (w.alloc (.cells #[.int .i64 kind, .bool b, .int .i64 n, .string z, .slice NA names.length nc, .slice A kids.length c] 26)).cell? ⟨w.heap.size, 3, none⟩ = some (.string z) := hbx.cell 3
 clear hbx
 go_enter Tryz.func8, Tryz.ntmps8
 go_wp2_with fail
 go_loopw [1, 5] (fun lv iv wr => ∃ (m : Int) (i : Nat), lv = .int .i64 m ∧ iv = .int .i64 i ∧ i ≤ names.length ∧ m ≤ 3000 ∧ Hid (0 ≤ m → (1 + z.size + nszJ (names.take i) : Int) + m ≤ left) ∧ Hid (Below w.heap.size w wr) ∧ Hid (Blk wr w.heap.size 26 #[.int .i64 kind, .bool b, .int .i64 n, .string z, .slice NA names.length nc, .slice A kids.length c])) (fun _ iv _ => names.length - (intOf iv).toNat)
 case atStart => exact ⟨(left : Int) - 1 - z.size, 0, by go_num, rfl, by omega, by omega, Lib.hid (fun h0 => by simp [nszJ]; omega), hb1, HX⟩
 case round =>
  clear hb1 HX c2
  obtain ⟨m, i, rfl, rfl, hik, hm3, hsum, hb, hx⟩ := hrel
  have c3 : wr.cell? ⟨w.heap.size, 4, none⟩ = some (.slice NA names.length nc) := hx.out.cell 4
  by_cases hmore : i < names.length ∧ 0 ≤ m
  ·
   obtain ⟨hlt, hm⟩ := hmore
   obtain ⟨ad, p, rfl, hpi, had, hcp⟩ := name_at H3.out hlt
   replace hcp := (hb.out.cell (p := ad.add i) (by rw [block_of_add]; exact had)).trans hcp
   have hpl := HNS.out p (List.mem_of_getElem? hpi)
   have hmo := nsz_more hpi
   have hsum1 := hsum.out hm
   obtain ⟨y, hy, hys⟩ : ∃ y : ByteArray, (⟨p.toArray⟩ : ByteArray) = y ∧ y.size = p.length := ⟨⟨p.toArray⟩, rfl, List.size_toArray⟩
   rw [hy] at hcp
   rw [← hys] at hpl hmo
   clear hpi had hy hys hsum
   have HSM := Lib.hid (show 0 ≤ m - 1 - (y.size : Int) → (1 + z.size + nszJ (names.take (i + 1)) : Int) + (m - 1 - y.size) ≤ left from fun h0 => by omega)
   clear hmo hsum1
   have g1 : decide ((i : Int) < (names.length : Int)) = true := by simp; omega
   go_wp2_with fail
   exact ⟨⟨m - 1 - y.size, i + 1, by go_num, by go_num, by omega, by omega, HSM, hb, hx⟩, by simp [intOf]; omega⟩
  ·
   have hend : names.take i = names ∨ ¬ 0 ≤ m := by
    by_cases hlt : i < names.length
    ·
     exact .inr fun h => hmore ⟨hlt, h⟩
    ·
     exact .inl (List.take_of_length_le (by omega))
   have hsum2 : Hid (0 ≤ m → (1 + z.size + nszJ names : Int) + m ≤ left) := fun h0 => by
    rcases hend with e | e
    ·
     have := hsum.out h0; rwa [e] at this
    ·
     exact absurd h0 e
   clear hsum hend
   have hst : Hid (0 ≤ m → (1 + z.size + nszJ names + szJs (kids.take 0) : Int) + m ≤ left) := fun h0 => by
    have := hsum2.out h0
    rw [List.take_zero, szJs]
    simpa using this
   clear hsum2
   by_cases hlt : i < names.length
   ·
    have hm : ¬ 0 ≤ m := fun h => hmore ⟨hlt, h⟩
    clear hmore
    go_wp2_with fail
    clear c3
    go_loopw [1, 6] (fun lv iv wq => lv = .int .i64 m ∧ iv = .int .i64 0 ∧ wq = wr) (fun _ iv _ => 0)
    case atStart => exact ⟨rfl, rfl, rfl⟩
    case round =>
     obtain ⟨rfl, rfl, rfl⟩ := hrel
     have c5 : wr.cell? ⟨w.heap.size, 5, none⟩ = some (.slice A kids.length c) := hx.out.cell 5
     by_cases hk0 : (0 : Int) < kids.length
     ·
      go_wp2_with fail
      go_ret
      exact ⟨⟨m, rfl, hm3, fun h => by omega⟩, hb.out⟩
     ·
      go_wp2_with fail
      go_ret
      exact ⟨⟨m, rfl, hm3, fun h => by omega⟩, hb.out⟩
   ·
    obtain rfl : i = names.length := by omega
    clear hmore
    go_wp2_with fail
    clear c3
    go_loopw [1, 6] (fun lv iv wr => ∃ (m : Int) (i : Nat), lv = .int .i64 m ∧ iv = .int .i64 i ∧ i ≤ kids.length ∧ m ≤ 3000 ∧ Hid (0 ≤ m → (1 + z.size + nszJ names + szJs (kids.take i) : Int) + m ≤ left) ∧ Hid (Below w.heap.size w wr) ∧ Hid (Blk wr w.heap.size 26 #[.int .i64 kind, .bool b, .int .i64 n, .string z, .slice NA names.length nc, .slice A kids.length c])) (fun _ iv _ => kids.length - (intOf iv).toNat)
    case atStart => exact ⟨m, 0, rfl, rfl, by omega, hm3, hst, hb, hx⟩
    case round =>
     clear hst hb hx hm3
     obtain ⟨m, i, rfl, rfl, hik, hm3, hsum, hb, hx⟩ := hrel
     have c3 : wr.cell? ⟨w.heap.size, 5, none⟩ = some (.slice A kids.length c) := hx.out.cell 5
     by_cases hlt : i < kids.length
     ·
      by_cases hm : 0 ≤ m
      ·
       obtain ⟨q, rfl⟩ := Int.eq_ofNat_of_zero_le hm
       obtain ⟨k, hk⟩ : ∃ k, kids[i]? = some k := ⟨kids[i], List.getElem?_eq_getElem hlt⟩
       obtain ⟨ad, v, rfl, htk, hcv⟩ := jkid_at H7.out H5.out hk
       have hadl := reads_near H5.out (by omega) rfl
       obtain ⟨k1, b1, n1, s1, NA1, nn1, nc1, A1, m1, c1, rfl⟩ := htk.form
       have hcw : ∀ j u, ([.int .i64 k1, .bool b1, .int .i64 n1, .string s1, .slice NA1 nn1 nc1, .slice A1 m1 c1] : List Value)[j]? = some u → wr.cell? ((ad.add (i * 6)).add j) = some u := fun j u hu => (hb.out.cell (by rw [block_of_add, block_of_add]; exact hadl)).trans (hcv j u hu)
       have cp := Lib.hid (HKD.out k (List.mem_of_getElem? hk) _ q wr (by omega) (HKS.out k (List.mem_of_getElem? hk)) (htk.below hb.out))
       have hmo := szJs_more hk
       have hsum1 := hsum.out hm
       have HSM := Lib.hid (show ∀ r : Int, (0 ≤ r → (szJ k : Int) + r ≤ q) → 0 ≤ r → (1 + z.size + nszJ names + szJs (kids.take (i + 1)) : Int) + r ≤ left from fun r h h0 => by have := h h0; omega)
       clear hk htk hcv hmo hsum hsum1 hadl
       go_wp2_with (refine wpList_load_at rfl 26 _ rfl (ad.add (i * 6)) rfl [.int .i64 k1, .bool b1, .int .i64 n1, .string s1, .slice NA1 nn1 nc1, .slice A1 m1 c1] _ hcw Tryz.underlying26 rfl jv_size ?_)
       refine cp.out.mono ?_
       rintro _ w5 ⟨⟨m5, rfl, hm5, hs5⟩, hb5⟩
       have HB5 := Lib.hid (below_next hb.out hb5)
       have HX5 := Lib.hid (hx.out.below hb5 hx.out.lt)
       have HS5 := Lib.hid (HSM.out m5 hs5)
       clear hb5 cp c3 hx hb hs5 hcw HSM
       go_wp2_with fail
       exact ⟨⟨m5, i + 1, rfl, by go_num, by omega, hm5, HS5, HB5, HX5⟩, by simp [intOf]; omega⟩
      ·
       go_wp2_with fail
       go_ret
       exact ⟨⟨m, rfl, hm3, fun h => by omega⟩, hb.out⟩
     ·
      obtain rfl : i = kids.length := by omega
      have hfin : 0 ≤ m → (szJ (.mk kind b n s names kids) : Int) + m ≤ left := fun h0 => by
       have := hsum.out h0
       rw [List.take_length] at this
       have e := hSZ.out
       have e2 := HZ.out
       omega
      have HFIN := Lib.hid hfin
      clear hsum hfin
      go_wp2_with fail
      go_ret
      exact ⟨⟨m, rfl, hm3, HFIN.out⟩, hb.out⟩
mutual
theorem fewj_all : ∀ t : Jv, FewJ t
 | .mk kind b n s names kids => fewj_node kind b n s names kids (fewj_each kids)
theorem fewj_each : ∀ ks : List Jv, ∀ k ∈ ks, FewJ k
 | [], k, h => by simp at h
 | x :: ks, k, h => by
  have h1 := fewj_all x
  have h2 := fewj_each ks
  rcases List.mem_cons.1 h with e | h
  ·
   rw [e]; exact h1
  ·
   exact h2 k h
end
end
section
open Go.RowKit Go.Maps
theorem szJ_pos : ∀ k : Jv, 1 ≤ szJ k
 | .mk _ _ _ _ _ _ => by rw [szJ]; omega
theorem szJs_ln : ∀ ks : List Jv, ks.length ≤ szJs ks
 | [] => by simp
 | k :: ks => by rw [szJs, List.length_cons]; have := szJ_pos k; have := szJs_ln ks; omega
theorem sum_mem : ∀ (l : List Nat) (x : Nat), x ∈ l → x ≤ l.sum
 | [], x, h => by simp at h
 | y :: l, x, h => by
  rw [List.sum_cons]
  rcases List.mem_cons.1 h with e | h
  ·
   omega
  ·
   have := sum_mem l x h; omega
theorem sum_ln : ∀ (ps : List (List UInt8)), ps.length ≤ (ps.map fun p => p.length + 1).sum
 | [] => by simp
 | p :: ps => by rw [List.map_cons, List.sum_cons, List.length_cons]; have := sum_ln ps; omega
mutual
theorem smJ_ok : ∀ v : Jv, okJ v → szJ v ≤ 100000 → smJ v
 | .mk k b n s names kids, h, hz => by
  rw [okJ] at h
  rw [szJ] at hz
  obtain ⟨h1, h2, _, _, h5⟩ := h
  have a1 := sum_ln names
  have a2 := szJs_ln kids
  rw [smJ]
  refine ⟨h1, h2, by omega, by omega, fun p hp => ?_, by omega, smJs_ok kids h5 (by omega)⟩
  have := sum_mem (names.map fun p => p.length + 1) (p.length + 1) (List.mem_map.2 ⟨p, hp, rfl⟩)
  omega
theorem smJs_ok : ∀ ks : List Jv, okJs ks → szJs ks ≤ 100000 → smJs ks
 | [], _, _ => by rw [smJs]; trivial
 | k :: ks, h, hz => by
  rw [okJs] at h
  rw [szJs] at hz
  rw [smJs]
  exact ⟨smJ_ok k h.1 (by omega), smJs_ok ks h.2 (by omega)⟩
end
end
end Go.Proofs.YtieppmppdmcleaaGreatDoor
