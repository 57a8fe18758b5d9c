import Derived.Test.YtekpdkjkkglcjaaMc
import Derived.Deep.RegionHeld3
import Derived.Laws.StructEq
set_option linter.unusedVariables false
set_option linter.unusedSimpArgs false
set_option maxRecDepth 20000
namespace Go.Proofs.Ytekpdkjkkglcjaa
open Go.RowKit B64
def partCells (l : List UInt8) (i : Nat) : Array Value := #[.int .u8 ((if 0 < i then nm l 0 else 0 : Nat) : Int), .int .u8 ((if 1 < i then nm l 1 else 0 : Nat) : Int), .int .u8 ((if 2 < i then nm l 2 else 0 : Nat) : Int), .int .u8 ((if 3 < i then nm l 3 else 0 : Nat) : Int)]
def PartPost (l : List UInt8) (w : World) (e : Ending) (w' : World) : Prop :=
  Below w.heap.size w w' ∧ if partOk l = true then ∃ A c, e = .returned (.tuple #[.slice A (thrL l).length c, .bool true]) ∧ Reads w' w'.heap.size 1 A (thrL l).length (Lib.byteCells (thrL l))
    else ∃ v, e = .returned (.tuple #[v, .bool false])

theorem nm_lt (l : List UInt8) (k : Nat) : nm l k < 64 := by unfold nm; split; exact num_lt _; decide
theorem part_not {l : List UInt8} (k : Nat) (h : k < l.length) (hs : isSign (l.getD k 0) = false) : ¬ partOk l = true := by
  intro hp
  simp only [partOk, Bool.and_eq_true, List.all_eq_true] at hp
  have := hp.1.1 (l.getD k 0) (by rw [List.getD_eq_getElem?_getD, List.getElem?_eq_getElem h]; exact List.getElem_mem h)
  rw [hs] at this; cases this
theorem part_cell {w : World} {g : Nat} {l : List UInt8} {i k : Nat} (h : Blk w g 68 (partCells l i)) (hk : k < 4) : ∃ v, w.cell? ⟨g, k, none⟩ = some v := by
  rw [h.cell k]
  match k, hk with
  | 0, _ => exact ⟨_, rfl⟩
  | 1, _ => exact ⟨_, rfl⟩
  | 2, _ => exact ⟨_, rfl⟩
  | 3, _ => exact ⟨_, rfl⟩
  | k + 4, h => omega
theorem part_set {l : List UInt8} {K : Int} (k : Nat) (hk : k < 4) (hl : k < l.length) (h : K = (num (l.getD k 0) : Nat)) : partCells l (k + 1) = (partCells l k).setIfInBounds k (.int .u8 K) := by
  have e : nm l k = num (l.getD k 0) := by simp [nm, hl]
  rw [h, ← e]
  match k, hk with
  | 0, _ => rfl
  | 1, _ => rfl
  | 2, _ => rfl
  | 3, _ => rfl
  | k + 4, h => omega
theorem part_all (l : List UInt8) (k : Nat) (h : k = l.length) : partCells l k = #[.int .u8 (nm l 0 : Nat), .int .u8 (nm l 1 : Nat), .int .u8 (nm l 2 : Nat), .int .u8 (nm l 3 : Nat)] := by
  subst h
  have e : ∀ j, (if j < l.length then nm l j else 0) = nm l j := fun j => by unfold nm; split <;> rfl
  simp only [partCells, e]
theorem eq38 (a0 a1 a2 a3 b0 b1 b2 b3 : Int) (w : World) : (Op.equalIn 10000 68 (.agg #[.int .u8 a0, .int .u8 a1, .int .u8 a2, .int .u8 a3]) (.agg #[.int .u8 b0, .int .u8 b1, .int .u8 b2, .int .u8 b3])).run Try.prog w = .ok (decide (a0 = b0 ∧ a1 = b1 ∧ a2 = b2 ∧ a3 = b3)) w := by
  have h5 := fun (a b : Int) (w : World) => run_equalIn_int (P := Try.prog) w 9998 5 .u8 .u8 a b Try.underlying5
  have hs : ∀ w, (sizeOf 5).run Try.prog w = .ok 1 w := fun w => by kernel_rfl
  have hg : ∀ w, (isAgg 5).run Try.prog w = .ok false w := fun w => by kernel_rfl
  have e : (10000 : Nat) = 9998 + 1 + 1 := rfl
  rw [e, Op.equalIn]
  simp only [Sem.run_bind, run_underlying Try.underlying68, Result.andThen_ok, hs]
  simp [List.range', h5, part, hg]
  by_cases h0 : a0 = b0 <;> by_cases h1 : a1 = b1 <;> by_cases h2 : a2 = b2 <;> by_cases h3 : a3 = b3 <;> simp [h0, h1, h2, h3]
theorem sl45 (n : Nat) (hn : n ≤ 3) (a : Addr) (w : World) : (Instr.sliceAt 80 (.pointer (some a)) none (some (.int .i64 (n : Int))) (some (.int .i64 (n : Int)))).run Try.prog w = .ok (.slice (some a) n n) w := by
  have al : Try.prog.arrayLen 80 = 3 := by kernel_rfl
  rw [run_sliceAt_array_hm w 80 a Try.underlying80 .i64 .i64 _ _ (by omega) (by omega) (by rw [al]; omega)]
  have : ((sizeOf (Try.prog.elem 80)).run Try.prog w) = .ok 1 w := by kernel_rfl
  rw [this]
  simp [Result.andThen, slicedAt, Addr.add]
theorem part_reads {w : World} {gy : Nat} (l : List UInt8) (n : Nat) (h : Blk w gy 80 #[.int .u8 (thr (nm l 0) (nm l 1) (nm l 2) (nm l 3) 0 : Nat), .int .u8 (thr (nm l 0) (nm l 1) (nm l 2) (nm l 3) 1 : Nat), .int .u8 (thr (nm l 0) (nm l 1) (nm l 2) (nm l 3) 2 : Nat)]) (hn : n + 1 = l.length) (h3 : n ≤ 3) :
    Reads w w.heap.size 1 (some ⟨gy, 0, none⟩) n (Lib.byteCells (thrL l)) := by
  refine ⟨by rw [Lib.byteCells_length, thrL_length]; omega, fun _ => ⟨_, rfl, h.lt, fun j u hu => ?_⟩⟩
  have hj : j < n := by
    have := (List.getElem?_eq_some_iff.1 hu).1
    rw [Lib.byteCells_length, thrL_length] at this; omega
  have ha : ((⟨gy, 0, none⟩ : Addr).add j) = ⟨gy, j, none⟩ := by unfold Addr.add; split <;> simp_all
  rw [ha, h.cell j, ← hu]
  have hl : j < l.length - 1 := by omega
  have e : (Lib.byteCells (thrL l))[j]? = some (.int .u8 (thr (nm l 0) (nm l 1) (nm l 2) (nm l 3) j : Nat)) := by
    have := thr_lt (nm l 0) (nm l 1) (nm l 2) (nm l 3) j
    simp [Lib.byteCells, thrL, hl]
    omega
  rw [e]
  match j, hj with
  | 0, _ => rfl
  | 1, _ => rfl
  | 2, _ => rfl
  | j + 3, h => omega
theorem part_all_sign (l : List UInt8) (h : ∀ j, j < l.length → isSign (l.getD j 0) = true) : l.all isSign = true := by
  rw [List.all_eq_true]
  intro x hx
  obtain ⟨j, hj, rfl⟩ := List.getElem_of_mem hx
  have := h j hj
  rwa [List.getD_eq_getElem?_getD, List.getElem?_eq_getElem hj] at this
set_option maxRecDepth 100000 in
set_option maxHeartbeats 1000000 in
theorem part_walk (s : ByteArray) (l : List UInt8) (hs : s.data.toList = l) (w : World) (h1 : 1 ≤ s.size) (h4 : s.size ≤ 4) :
    Calls Try.prog 57 #[.string s] w (PartPost l w) := by
  have al38 : Try.prog.arrayLen 68 = 4 := by kernel_rfl
  have al45 : Try.prog.arrayLen 80 = 3 := by kernel_rfl
  go_enter Try.func57, Try.ntmps57
  go_wp2_with fail
  go_loopw [11] (fun i wr => ∃ k : Nat, k ≤ s.size ∧ i = .int .i64 k ∧ Hid (∀ j, j < k → isSign (l.getD j 0) = true) ∧ Blk wr w.heap.size 68 (partCells l k) ∧ Below w.heap.size w wr) (fun i _ => s.size - (intOf i).toNat)
  case atStart => exact ⟨0, by omega, rfl, fun j hj => by omega, Blk.new w 68 _, (Below.refl _ _).alloc (Nat.le_refl _) _⟩
  case round =>
    obtain ⟨k, hk, rfl, hsg, hx, hbl⟩ := hrel
    by_cases hlt : k < s.size
    · have hge := Lib.indexByte_ge signs s[k]
      have hlt64 := index_lt s[k]
      have hgk : l.getD k 0 = s[k] := by rw [← hs, List.getD_eq_getElem?_getD, List.getElem?_eq_getElem (by simpa using hlt)]; rfl
      have HGK := Lib.hid hgk
      clear hgk
      go_wp2_with fail
      refine (Try.strings_IndexByte _ _ _).mono ?_
      rintro e wr ⟨rfl, rfl⟩
      rw [show Lib.indexByte (ByteArray.mk #[65, 66, 67, 68, 69, 70, 71, 72, 73, 74, 75, 76, 77, 78, 79, 80, 81, 82, 83, 84, 85, 86, 87, 88, 89, 90, 97, 98, 99, 100, 101, 102, 103, 104, 105, 106, 107, 108, 109, 110, 111, 112, 113, 114, 115, 116, 117, 118, 119, 120, 121, 122, 48, 49, 50, 51, 52, 53, 54, 55, 56, 57, 45, 95]).data.toList (↑(s[k]).toNat : Int).toNat.toUInt8 = Lib.indexByte signs s[k] by simp [signs]]
      obtain ⟨K, hK, hKge, hKlt⟩ : ∃ K, Lib.indexByte signs s[k] = K ∧ -1 ≤ K ∧ K < 64 := ⟨_, rfl, hge, hlt64⟩
      rw [hK]
      have HK := Lib.hid hK
      clear hK hge hlt64
      by_cases hneg : K < 0
      · go_wp2_with fail
        go_ret2
        refine ⟨hbl, ?_⟩
        rw [if_neg (part_not k (by rw [← hs]; simpa using hlt) (by rw [HGK.out, isSign, HK.out]; simp; omega))]
        exact ⟨_, rfl⟩
      · have hpos : 0 ≤ K := by omega
        have hk4 : k < 4 := by omega
        obtain ⟨v0, hv0⟩ := part_cell hx hk4
        have hf0 := hx.frozen k
        have hx2 := hx.set_ k (.int .u8 K)
        have hmod : K % 256 = K := by omega
        have HE : partCells l (k + 1) = (partCells l k).setIfInBounds k (.int .u8 K) := part_set k hk4 (by rw [← hs]; simpa using hlt) (by rw [HGK.out, num, HK.out]; omega)
        have HS : Hid (∀ j, j < k + 1 → isSign (l.getD j 0) = true) := fun j hj => by
          rcases Nat.lt_or_ge j k with h | h
          · exact hsg.out j h
          · rw [show j = k by omega, HGK.out, isSign, HK.out]; simpa using hpos
        rw [← HE] at hx2
        have hbl2 := hbl.setCell (p := ⟨w.heap.size, k, none⟩) (Nat.le_refl _) (.int .u8 K)
        clear hneg hx hbl hsg HE
        go_wp2_with fail
        go_roundw
        case rel => exact ⟨k + 1, by omega, by go_num, HS, hx2, hbl2⟩
        case measure => simp [intOf]; omega
    · have hkl : k = s.size := by omega
      have hal : Hid (∀ j, j < s.size → isSign (l.getD j 0) = true) := by rw [← hkl]; exact hsg
      have hsz : s.size = l.length := by rw [← hs]; simp
      have hxa : Blk wr w.heap.size 68 #[.int .u8 (nm l 0 : Nat), .int .u8 (nm l 1 : Nat), .int .u8 (nm l 2 : Nat), .int .u8 (nm l 3 : Nat)] := by
        have := part_all l k (by omega)
        rw [← this]; exact hx
      obtain ⟨n, hn, hn1, hn2⟩ : ∃ n : Nat, ((s.size : Int) - 1 = (n : Int)) ∧ Hid (n + 1 = s.size) ∧ n ≤ 3 := ⟨s.size - 1, by omega, by show _ + 1 = _; omega, by omega⟩
      clear hsg hkl hx
      have c0 := hxa.cell 0
      have c1 := hxa.cell 1
      have c2 := hxa.cell 2
      have c3 := hxa.cell 3
      simp only [List.getElem?_toArray, List.getElem?_cons_zero, List.getElem?_cons_succ] at c0 c1 c2 c3
      have HZ := Lib.hid hsz
      clear hsz
      go_wp2_with fail
      refine (three_walk (nm l 0) (nm l 1) (nm l 2) (nm l 3) wr (nm_lt l 0) (nm_lt l 1) (nm_lt l 2) (nm_lt l 3)).mono ?_
      rintro e w1 ⟨rfl, hb1⟩
      have d0 := hb1.cell (p := ⟨w.heap.size, 0, none⟩) hxa.lt
      have d1 := hb1.cell (p := ⟨w.heap.size, 1, none⟩) hxa.lt
      have d2 := hb1.cell (p := ⟨w.heap.size, 2, none⟩) hxa.lt
      have d3 := hb1.cell (p := ⟨w.heap.size, 3, none⟩) hxa.lt
      rw [c0] at d0
      rw [c1] at d1
      rw [c2] at d2
      rw [c3] at d3
      clear c0 c1 c2 c3
      go_wp2_with fail
      have hy := Blk.new w1 80 #[.int .u8 (thr (nm l 0) (nm l 1) (nm l 2) (nm l 3) 0 : Nat), .int .u8 (thr (nm l 0) (nm l 1) (nm l 2) (nm l 3) 1 : Nat), .int .u8 (thr (nm l 0) (nm l 1) (nm l 2) (nm l 3) 2 : Nat)]
      have hx2 := (hxa.below hb1 hxa.lt).alloc (.cells #[.int .u8 (thr (nm l 0) (nm l 1) (nm l 2) (nm l 3) 0 : Nat), .int .u8 (thr (nm l 0) (nm l 1) (nm l 2) (nm l 3) 1 : Nat), .int .u8 (thr (nm l 0) (nm l 1) (nm l 2) (nm l 3) 2 : Nat)] 80)
      have hbl2 := (hbl.trans (hb1.mono hbl.size)).alloc (Nat.le_trans hbl.size hb1.size) (.cells #[.int .u8 (thr (nm l 0) (nm l 1) (nm l 2) (nm l 3) 0 : Nat), .int .u8 (thr (nm l 0) (nm l 1) (nm l 2) (nm l 3) 1 : Nat), .int .u8 (thr (nm l 0) (nm l 1) (nm l 2) (nm l 3) 2 : Nat)] 80)
      generalize w1.alloc (.cells #[.int .u8 (thr (nm l 0) (nm l 1) (nm l 2) (nm l 3) 0 : Nat), .int .u8 (thr (nm l 0) (nm l 1) (nm l 2) (nm l 3) 1 : Nat), .int .u8 (thr (nm l 0) (nm l 1) (nm l 2) (nm l 3) 2 : Nat)] 80) = W at *
      obtain ⟨gy, hgy, hgyle⟩ : ∃ gy, w1.heap.size = gy ∧ w.heap.size ≤ gy := ⟨_, rfl, Nat.le_trans hbl.size hb1.size⟩
      rw [hgy] at hy ⊢
      clear hgy hb1 hbl d0 d1 d2 d3 hxa hlt hk
      by_cases hn0 : n = 0
      · subst hn0
        have hsl : ∀ w, (Instr.sliceAt 80 (.pointer (some ⟨gy, 0, none⟩)) none (some (.int .i64 0)) (some (.int .i64 0))).run Try.prog w = .ok (.slice (some ⟨gy, 0, none⟩) 0 0) w := fun w => sl45 0 (by omega) ⟨gy, 0, none⟩ w
        go_wp2_with fail
        go_quiet (fail)
        go_wp2_with fail
        go_ret2
        refine ⟨below_drewN hbl2 _, ?_⟩
        have e1 := hn1.out
        have e2 := HZ.out
        rw [if_neg (by simp [partOk]; omega)]
        exact ⟨_, rfl⟩
      · have hsl := fun w => sl45 n hn2 ⟨gy, 0, none⟩ w
        have hd : decide (0 < n) = true := by simp; omega
        have hrd : Reads W.drew W.drew.heap.size 1 (some ⟨gy, 0, none⟩) n (Lib.byteCells (thrL l)) := part_reads l n hy (by rw [← HZ.out]; exact hn1.out) hn2
        have hf := Lib.hid (four_walk (some ⟨gy, 0, none⟩) n n (thrL l) W.drew hrd hn2)
        have c0 := hx2.cell 0
        have c1 := hx2.cell 1
        have c2 := hx2.cell 2
        have c3 := hx2.cell 3
        simp only [List.getElem?_toArray, List.getElem?_cons_zero, List.getElem?_cons_succ] at c0 c1 c2 c3
        obtain ⟨bq, hbq⟩ : ∃ b, decide (((sxt (thrL l) 0 : Nat) : Int) = (nm l 0 : Nat) ∧ ((sxt (thrL l) 1 : Nat) : Int) = (nm l 1 : Nat) ∧ ((sxt (thrL l) 2 : Nat) : Int) = (nm l 2 : Nat) ∧ ((sxt (thrL l) 3 : Nat) : Int) = (nm l 3 : Nat)) = b := ⟨_, rfl⟩
        have heq := eq38 (sxt (thrL l) 0 : Nat) (sxt (thrL l) 1 : Nat) (sxt (thrL l) 2 : Nat) (sxt (thrL l) 3 : Nat) (nm l 0 : Nat) (nm l 1 : Nat) (nm l 2 : Nat) (nm l 3 : Nat)
        rw [hbq] at heq
        have HB := Lib.hid hbq
        clear hbq
        go_region_held3 (fun w' => w'.cell? ⟨w.heap.size, 0, none⟩ = some (.int .u8 (nm l 0 : Nat)) ∧ w'.cell? ⟨w.heap.size, 1, none⟩ = some (.int .u8 (nm l 1 : Nat)) ∧ w'.cell? ⟨w.heap.size, 2, none⟩ = some (.int .u8 (nm l 2 : Nat)) ∧ w'.cell? ⟨w.heap.size, 3, none⟩ = some (.int .u8 (nm l 3 : Nat)) ∧ Reads w' w'.heap.size 1 (some ⟨gy, 0, none⟩) n (Lib.byteCells (thrL l)) ∧ Below w.heap.size w w')
          (first | exact ⟨c0, c1, c2, c3, hrd, hbl2.drew⟩ | exact ⟨d0, d1, d2, d3, hrd5, hbl5⟩)
          (first | (go_at_call 54; refine hf.out.mono ?_; rintro e w5 ⟨rfl, hb5⟩; have d0 := (hb5.cell (p := ⟨w.heap.size, 0, none⟩) hx2.lt).trans (show W.drew.cell? _ = _ from c0); have d1 := (hb5.cell (p := ⟨w.heap.size, 1, none⟩) hx2.lt).trans (show W.drew.cell? _ = _ from c1); have d2 := (hb5.cell (p := ⟨w.heap.size, 2, none⟩) hx2.lt).trans (show W.drew.cell? _ = _ from c2); have d3 := (hb5.cell (p := ⟨w.heap.size, 3, none⟩) hx2.lt).trans (show W.drew.cell? _ = _ from c3); have hrd5 := (hrd.below hb5).more hb5.size; have hbl5 := hbl2.drew.trans (hb5.mono hbl2.size)))
        go_wp2_with fail
        go_ret2
        refine ⟨hbl5, ?_⟩
        have hok : partOk l = bq := by
          have e1 := hn1.out
          have e2 := HZ.out
          have e3 := hal.out
          rw [← HB.out, partOk, part_all_sign l (fun j hj => e3 j (by omega))]
          simp only [Bool.true_and, Int.natCast_inj]
          rw [show decide (1 < l.length) = true by simp; omega, Bool.true_and]
        have hl : n = (thrL l).length := by
          have e1 := hn1.out
          have e2 := HZ.out
          rw [thrL_length]; omega
        rw [hok]
        cases bq
        · rw [if_neg (by decide)]; exact ⟨_, rfl⟩
        · rw [if_pos rfl, ← hl]; exact ⟨_, _, rfl, hrd5⟩
end Go.Proofs.Ytekpdkjkkglcjaa
