/- A raw term read out of memory; l1.Few. No condition of its own. -/
import Derived.Test.YtnckjglohaaobaaEl
import Derived.Test.YtnckjglohaaobaaEd
import Derived.Test.YtnckjglohaaobaaKp
import Derived.Deep.Slices
import Derived.ProofKit
set_option linter.unusedVariables false
set_option linter.unusedSimpArgs false
namespace Go.Proofs.Ytnckjglohaaobaa
open Go.RowKit Go.ChangeShapes Go.WideShapes Go.ChangeAt
section
variable {H : Type} {enc : TypeId × Value → H} {w : World} {base : Nat} {spare : Nat → Bool} {held : Bool}
theorem cell_int {n : Nat} {c : Value} {x : DataW H × List MemPlace} (h : DataW.trod enc Try.prog w base spare held n 3 [c] = some x) : ∃ v, c = .int .i64 v := by
  obtain ⟨v, hv, _⟩ := DataW.trod_int Try.underlying3 h
  injection hv with e _
  exact ⟨v, e⟩
theorem cell_string {n : Nat} {c : Value} {x : DataW H × List MemPlace} (h : DataW.trod enc Try.prog w base spare held n 9 [c] = some x) : ∃ v, c = .string v := by
  obtain ⟨v, hv, _⟩ := DataW.trod_string Try.underlying9 h
  injection hv with e _
  exact ⟨v, e⟩
theorem cells_int : Try.prog.cellsOf 3 = 1 := by kernel_rfl
theorem cells_string : Try.prog.cellsOf 9 = 1 := by kernel_rfl
theorem cells_terms : Try.prog.cellsOf 22 = 1 := by kernel_rfl
theorem cells_term : Try.prog.cellsOf 24 = 4 := by kernel_rfl
theorem some_of {α : Type} {l : List α} {i : Nat} (h : i < l.length) : ∃ x, l[i]? = some x := ⟨l[i], List.getElem?_eq_getElem h⟩
theorem cell_lt {w : World} {a : Addr} {v : Value} (h : w.cell? a = some v) : a.block < w.heap.size := by
  unfold World.cell? at h
  rcases Nat.lt_or_ge a.block w.heap.size with hl | hl
  · exact hl
  · rw [Array.getElem?_eq_none hl] at h
    simp at h
theorem tms_map {w : World} {lo : Nat} (f : Nat → Tm × List Value) : ∀ is : List Nat, (∀ i ∈ is, TmV w lo (f i).1 (f i).2) → TmsV w lo (is.map fun i => (f i).1) (is.map fun i => (f i).2)
  | [], _ => by simp only [List.map_nil]; rw [TmsV]
  | i :: is, h => by
    simp only [List.map_cons]
    rw [TmsV]
    exact ⟨_, _, rfl, h i (by simp), tms_map f is fun j hj => h j (by simp [hj])⟩
theorem tms_flat {w : World} {lo : Nat} : ∀ {ts : List Tm} {vs : List (List Value)}, TmsV w lo ts vs → vs.flatten.length = ts.length * 4
  | [], vs, h => by rw [TmsV] at h; subst h; rfl
  | k :: ks, vs, h => by
    rw [TmsV] at h
    obtain ⟨v, vs', rfl, h2, h3⟩ := h
    rw [List.flatten_cons, List.length_append, h2.len, tms_flat h3, List.length_cons]
    omega
instance : Inhabited Tm := ⟨.mk 0 0 ⟨#[]⟩ []⟩
theorem term_trod : ∀ (n : Nat) (cs : List Value) (x : DataW H × List MemPlace), DataW.trod enc Try.prog w base spare held n 24 cs = some x → ∃ t, TmV w 0 t cs := by
  intro n
  induction n using Nat.strongRecOn with
  | ind n ih =>
    intro cs x h
    obtain ⟨xs, k, hk, _, hlen, hl, hf⟩ := DataW.trod_struct Try.underlying24 h
    rw [cells_term] at hlen
    obtain ⟨x0, e0⟩ := some_of (l := xs) (i := 0) (by rw [hl]; decide)
    obtain ⟨x1, e1⟩ := some_of (l := xs) (i := 1) (by rw [hl]; decide)
    obtain ⟨x2, e2⟩ := some_of (l := xs) (i := 2) (by rw [hl]; decide)
    obtain ⟨x3, e3⟩ := some_of (l := xs) (i := 3) (by rw [hl]; decide)
    have g0 := (hf 0 _ rfl).trans e0
    have g1 := (hf 1 _ rfl).trans e1
    have g2 := (hf 2 _ rfl).trans e2
    have g3 := (hf 3 _ rfl).trans e3
    clear hf e0 e1 e2 e3
    match cs, hlen with
    | [c0, c1, c2, c3], _ =>
      simp only [List.getElem_toArray, List.getElem_cons_zero, List.getElem_cons_succ, cells_int, cells_string, cells_terms, List.drop_zero, List.drop_succ_cons, List.take_succ_cons, List.take_zero] at g0 g1 g2 g3
      obtain ⟨v0, rfl⟩ := cell_int g0
      obtain ⟨v1, rfl⟩ := cell_int g1
      obtain ⟨v2, rfl⟩ := cell_string g2
      rcases DataW.trod_slice Try.underlying22 g3 with ⟨h0, _⟩ | ⟨a, len, cap, elems, rest, k2, hk2, h0, _, hb, hle, hmx, hel, hx, _, _⟩
      · injection h0 with h0
        subst h0
        exact ⟨.mk v0 v1 v2 [], tm_leaf w 0 v0 v1 v2⟩
      · injection h0 with h0
        subst h0
        have hmx2 : cap ≤ 9223372036854775807 := by simpa [maxLen] using hmx
        rw [cells_term] at hx
        obtain ⟨f, hfx⟩ := Go.Deep.choose_lt (α := Tm × List Value) (p := fun i r => w.cells? base (a.add (i * 4)) 4 = some r.2 ∧ TmV w 0 r.1 r.2) (fun i hi => by
          have h1 := hx i hi
          rw [List.getElem?_eq_getElem (by omega)] at h1
          obtain ⟨cs', h2, h3⟩ := Option.bind_eq_some_iff.1 h1
          obtain ⟨t, ht⟩ := ih k2 (by omega) cs' _ h3
          exact ⟨(t, cs'), h2, ht⟩)
        have hts := tms_map (w := w) (lo := 0) f (List.range len) fun i hi => (hfx i (by simpa using hi)).2
        have hfl := tms_flat hts
        rw [List.length_map, List.length_range] at hfl
        refine ⟨.mk v0 v1 v2 ((List.range len).map fun i => (f i).1), ?_⟩
        rw [TmV]
        refine ⟨some a, cap, (List.range len).map fun i => (f i).2, by simp [cells4], by simpa using hle, hmx2, ⟨by rw [hfl, List.length_map, List.length_range], fun hl0 => ?_⟩, fun _ _ _ => Nat.zero_le _, hts⟩
        have hl1 : 0 < len := by simpa using hl0
        refine ⟨a, rfl, ?_, fun j u hu => ?_⟩
        · obtain ⟨_, h2, h3⟩ := World.cells?_some (hfx 0 hl1).1
          have h4 := h3 0 (by omega)
          rw [List.getElem?_eq_getElem (by omega)] at h4
          simpa [block_of_add] using cell_lt h4
        · have hj : j < len * 4 := by rw [← hfl]; exact (List.getElem?_eq_some_iff.1 hu).1
          obtain ⟨_, h2, h3⟩ := World.cells?_some (hfx (j / 4) (by omega)).1
          have h4 := h3 (j % 4) (by omega)
          have h5 : ((List.range len).map fun i => (f i).2)[j / 4]? = some (f (j / 4)).2 := by
            rw [List.getElem?_map, List.getElem?_range (by omega)]; rfl
          have h6 : (f (j / 4)).2[j % 4]? = some ((f (j / 4)).2[j % 4]'(by omega)) := List.getElem?_eq_getElem (by omega)
          have h7 := flat4 hts h5 _ _ h6
          rw [show j / 4 * 4 + j % 4 = j by omega, hu] at h7
          injection h7 with h7
          rw [h7, ← h6, ← h4, add_of_add, show j / 4 * 4 + j % 4 = j by omega]
end
def FewOk (t : Tm) : Prop := ∀ (cs : List Value) (left : Int) (w : World), TmV w 0 t cs →
  Calls Try.prog 10 #[.agg cs.toArray, .int .i64 left] w fun e w' => (∃ n : Int, e = .returned (.int .i64 n)) ∧ Below w.heap.size w w'
set_option maxHeartbeats 2000000 in
theorem few_node (kind n : Int) (s : ByteArray) (kids : List Tm) (hkids : ∀ k ∈ kids, FewOk k) : FewOk (.mk kind n s kids) := by
  intro cs left w ht
  rw [TmV] at ht
  obtain ⟨A, c, vs, rfl, h1, h2, h3, _, h5⟩ := ht
  show Calls _ _ #[.agg #[.int .i64 kind, .int .i64 n, .string s, .slice A kids.length c], .int .i64 left] _ _
  have hb1 := Lib.hid ((Below.refl w.heap.size w).alloc (Nat.le_refl _) (.cells #[.int .i64 kind, .int .i64 n, .string s, .slice A kids.length c] 24))
  have hbx := Blk.new w 24 #[.int .i64 kind, .int .i64 n, .string s, .slice A kids.length c]
  have HX := Lib.hid hbx
  have c2 : (w.alloc (.cells #[.int .i64 kind, .int .i64 n, .string s, .slice A kids.length c] 24)).cell? ⟨w.heap.size, 2, none⟩ = some (.string s) := hbx.cell 2
  clear hbx
  go_enter Try.func10, Try.ntmps10
  go_wp2_with fail
  go_loopw [1, 5] (fun lv iv wr => ∃ (m : Int) (i : Nat), lv = .int .i64 m ∧ iv = .int .i64 i ∧ i ≤ kids.length ∧ Hid (Below w.heap.size w wr) ∧ Hid (Blk wr w.heap.size 24 #[.int .i64 kind, .int .i64 n, .string s, .slice A kids.length c])) (fun _ iv _ => kids.length - (intOf iv).toNat)
  case atStart => exact ⟨_, 0, rfl, rfl, by omega, hb1, HX⟩
  case round =>
    clear hb1 HX c2
    obtain ⟨m, i, rfl, rfl, hik, hb, hx⟩ := hrel
    have c3 : wr.cell? ⟨w.heap.size, 3, none⟩ = some (.slice A kids.length c) := hx.out.cell 3
    by_cases hlt : i < kids.length
    · by_cases hm : 0 ≤ m
      · obtain ⟨k, hk⟩ : ∃ k, kids[i]? = some k := ⟨kids[i], List.getElem?_eq_getElem hlt⟩
        obtain ⟨ad, v, rfl, htk, hcv⟩ := kid_at h5 h3 hk
        obtain ⟨ad', e', hadl, _⟩ := h3.2 (by omega)
        injection e' with e'
        subst e'
        obtain ⟨kd, nm, s2, A2, m2, c2, rfl⟩ := htk.form
        have hcw : ∀ j u, [Value.int .i64 kd, .int .i64 nm, .string s2, .slice A2 m2 c2][j]? = some u → wr.cell? ((ad.add (i * 4)).add j) = some u := fun j u hu => (hb.out.cell (by rw [block_of_add, block_of_add]; exact hadl)).trans (hcv j u hu)
        have cp := Lib.hid (hkids k (List.mem_of_getElem? hk) _ m wr (htk.below hb.out))
        clear hk htk hcv
        go_wp2_with (refine wpList_load_at rfl 24 _ rfl (ad.add (i * 4)) rfl [.int .i64 kd, .int .i64 nm, .string s2, .slice A2 m2 c2] _ hcw Try.underlying24 rfl term_size ?_)
        refine cp.out.mono ?_
        rintro _ w5 ⟨⟨m5, rfl⟩, hb5⟩
        have HB5 := Lib.hid (below_then hb.out hb5)
        have HX5 := Lib.hid (hx.out.below hb5 hx.out.lt)
        clear hb5 cp c3 hx hb
        go_wp2_with fail
        exact ⟨⟨m5, i + 1, rfl, by go_num, by omega, HB5, HX5⟩, by simp [intOf]; omega⟩
      · go_wp2_with fail
        go_ret
        exact ⟨⟨m, rfl⟩, hb.out⟩
    · obtain rfl : i = kids.length := by omega
      go_wp2_with fail
      go_ret
      exact ⟨⟨m, rfl⟩, hb.out⟩
mutual
theorem few_all : ∀ t : Tm, FewOk t
  | .mk kind n s kids => few_node kind n s kids (few_each kids)
theorem few_each : ∀ ks : List Tm, ∀ k ∈ ks, FewOk k
  | [], k, h => by simp at h
  | x :: ks, k, h => by
    have h1 := few_all x
    have h2 := few_each ks
    rcases List.mem_cons.1 h with e | h
    · rw [e]; exact h1
    · exact h2 k h
end
end Go.Proofs.Ytnckjglohaaobaa
