/- The statement CodeDeep. No condition of its own. -/
import Derived.Test.YtnckjglohaaobaaEd
import Derived.Test.YtnckjglohaaobaaKp
import Derived.Deep.DeepCutAuto
import Derived.Deep.CutBlock
import Derived.Test.YtnckjglohaaobaaDq
set_option linter.unusedVariables false
set_option linter.unusedSimpArgs false
namespace Go.Proofs.Ytnckjglohaaobaa
open Go.RowKit
/-- a row of k bytes, the first i of them 3 -/
def rowB (k i : Nat) : List UInt8 := List.replicate i 3 ++ List.replicate (k - i) 0
theorem rowB_len {k i : Nat} (h : i ≤ k) : (rowB k i).length = k := by rw [rowB, List.length_append, List.length_replicate, List.length_replicate]; omega
theorem rowB_full (k : Nat) : rowB k k = List.replicate k 3 := by rw [rowB, Nat.sub_self]; simp
theorem rowB_cell {k i : Nat} (h : i < k) : (Lib.byteCells (rowB k i)).toArray[i]? = some (.int .u8 0) := by
  have h2 : i - (List.replicate i (3 : UInt8)).length = 0 := by simp
  have h3 : (rowB k i)[i]? = some 0 := by
    rw [rowB, List.getElem?_append_right (by simp), h2, List.getElem?_replicate, if_pos (by omega)]
  simp [Lib.byteCells, h3]
theorem rowB_set {k i : Nat} (h : i < k) : (Lib.byteCells (rowB k i)).toArray.setIfInBounds i (.int .u8 3) = (Lib.byteCells (rowB k (i + 1))).toArray := by
  have e : rowB k i = List.replicate i 3 ++ 0 :: List.replicate (k - (i + 1)) 0 := by
    rw [rowB, show k - i = (k - (i + 1)) + 1 by omega, List.replicate_succ]
  have e2 : rowB k (i + 1) = List.replicate i 3 ++ 3 :: List.replicate (k - (i + 1)) 0 := by
    rw [rowB, List.replicate_succ', List.append_assoc]; rfl
  rw [e, e2]
  simp only [Lib.byteCells, List.map_append, List.map_cons, List.setIfInBounds_toArray]
  congr 1
  rw [List.set_append_right _ _ (by simp)]
  simp
theorem rowB_made (k : Nat) : madeCells #[.int .u8 0] k = (Lib.byteCells (rowB k 0)).toArray := by
  apply Array.ext_getElem?
  intro j
  have e : (Lib.byteCells (rowB k 0)).toArray = Array.replicate k (Value.int .u8 0) := by simp [rowB, Lib.byteCells]
  rw [e]
  by_cases hj : j < k
  · simp [madeCells, hj, Nat.mod_one]
  · simp [madeCells, hj]
theorem pairs_snoc : ∀ i, pairs (i + 1) = pairs i ++ [7, 2, 0, 0, 0, 1]
  | 0 => rfl
  | i + 1 => by
    conv => lhs; rw [pairs, pairs_snoc i]
    conv => rhs; rw [pairs]
    rfl
theorem tmod_nat (n : Int) (b : Nat) (hb : 0 < b) : ∃ r : Int, n.tmod (b : Int) = r ∧ ∃ k : Nat, k < b ∧ ((r < 0 ∧ r + (b : Int) = (k : Int)) ∨ (0 ≤ r ∧ r = (k : Int))) := by
  have h1 : -(b : Int) < n.tmod (b : Int) := Int.lt_tmod_of_pos _ (by omega)
  have h2 : n.tmod (b : Int) < (b : Int) := Int.tmod_lt_of_pos _ (by omega)
  refine ⟨_, rfl, ?_⟩
  by_cases h0 : n.tmod (b : Int) < 0
  · exact ⟨(n.tmod (b : Int) + (b : Int)).toNat, by omega, .inl ⟨h0, by omega⟩⟩
  · exact ⟨(n.tmod (b : Int)).toNat, by omega, .inr ⟨by omega, by omega⟩⟩
set_option maxHeartbeats 16000000 in
theorem deep_law (n m : Int) (w : World) (hn : -9223372036854775808 ≤ n ∧ n ≤ 9223372036854775807) (hm : -9223372036854775808 ≤ m ∧ m ≤ 9223372036854775807) :
    Calls Try.prog 8 #[.int .i64 n, .int .i64 m] w fun e w' => e = .returned (.bool true) ∧ Below w.heap.size w w' := by
  obtain ⟨i0, hi, hz0, hz1, hz2⟩ := info_parts4 info_u8
  obtain ⟨hn1, hn2⟩ := hn
  obtain ⟨hm1, hm2⟩ := hm
  obtain ⟨r, er, k, hk, hrk⟩ := tmod_nat n 20 (by decide)
  obtain ⟨s, es, j, hj, hsj⟩ := tmod_nat m 40 (by decide)
  have er' : n.tmod 20 = r := er
  have es' : m.tmod 40 = s := es
  have hrl : -20 ≤ r ∧ r < 20 := by omega
  have hsl : -40 ≤ s ∧ s < 40 := by omega
  obtain ⟨hrl1, hrl2⟩ := hrl
  obtain ⟨hsl1, hsl2⟩ := hsl
  clear er es
  have HE1 := Lib.hid (ev_deep k)
  have HE2 := Lib.hid (ev_nine k)
  have HE3 := Lib.hid (ev_pairs j)
  obtain ⟨e1, he1⟩ : ∃ e1 : Int, (if 16 ≤ k then 4 else 1) = e1 := ⟨_, rfl⟩
  obtain ⟨e2, he2⟩ : ∃ e2 : Int, (if 16 ≤ k then 4 else 2) = e2 := ⟨_, rfl⟩
  obtain ⟨e3, he3⟩ : ∃ e3 : Int, (if 16 ≤ j then 4 else 1) = e3 := ⟨_, rfl⟩
  rw [he1] at HE1
  rw [he2] at HE2
  rw [he3] at HE3
  have H1 := Lib.hid he1
  have H2 := Lib.hid he2
  have H3 := Lib.hid he3
  clear he1 he2 he3
  have HRK := Lib.hid hrk
  have HSJ := Lib.hid hsj
  clear hrk hsj
  go_enter Try.func8, Try.ntmps8
  go_wp2_with fail
  refine (known_walk w).mono ?_
  rintro _ w1 ⟨rfl, hb1⟩
  go_upto_if 29 with (fail)
  go_cut [5] from 30 to 31 (fun v5 wx => v5 = .int .i64 (k : Int) ∧ w1 = wx)
  case first =>
    rcases HRK.out with ⟨hr0, erk⟩ | ⟨hr0, erk⟩
    · replace erk : r + 20 = (k : Int) := by omega
      go_wp2_with fail
      go_meet
      exact ⟨rfl, rfl⟩
    · obtain rfl : r = (k : Int) := by omega
      go_wp2_with fail
      go_meet
      exact ⟨rfl, rfl⟩
  case rest =>
  obtain ⟨rfl, rfl⟩ := hcut
  go_upto_if 33 with (fail)
  go_cut [6] from 34 to 35 (fun v6 wx => v6 = .int .i64 (j : Int) ∧ w1 = wx)
  case first =>
    rcases HSJ.out with ⟨hs0, esj⟩ | ⟨hs0, esj⟩
    · replace esj : s + 40 = (j : Int) := by omega
      go_wp2_with fail
      go_meet
      exact ⟨rfl, rfl⟩
    · obtain rfl : s = (j : Int) := by omega
      go_wp2_with fail
      go_meet
      exact ⟨rfl, rfl⟩
  case rest =>
  obtain ⟨rfl, rfl⟩ := hcut
  clear HRK HSJ er' es' hrl1 hrl2 hsl1 hsl2
  have HB := Lib.hid ((below_keeps hb1).alloc (.cells (madeCells #[.int .u8 0] k) 5))
  have hbr := Blk.new w1 5 (madeCells #[.int .u8 0] k)
  have hws := hb1.size
  clear hb1
  go_wp2_with (refine wpList_make_row w1 rfl _ _ 28 rfl 5 i0 (.int .u8 0) Try.underlying28 hi hz0 hz1 rfl .i64 .i64 k rfl rfl (by rw [hz2]; omega) (by omega) ?_)
  rw [rowB_made] at hbr HB ⊢
  generalize hW1 : w1.alloc (.cells (Lib.byteCells (rowB k 0)).toArray 5) = wm at hbr HB ⊢
  have hg1 : w1.heap.size < wm.heap.size := by rw [← hW1]; simp
  clear hW1
  go_loopw [8] (fun iv wr => ∃ i : Nat, i ≤ k ∧ iv = .int .i64 i ∧ Hid (Below w.heap.size w wr) ∧ Hid (Blk wr w1.heap.size 5 (Lib.byteCells (rowB k i)).toArray)) (fun iv _ => k - (intOf iv).toNat)
  case atStart => exact ⟨0, by omega, rfl, HB.out.now, hbr⟩
  case round =>
    clear HB hbr
    obtain ⟨i, hik, rfl, hb, hbk⟩ := hrel
    by_cases hlt : i < k
    · have hc := (hbk.out.cell i).trans (rowB_cell hlt)
      have hf := hbk.out.frozen i
      have hnx := hbk.out.set_ i (.int .u8 3)
      rw [rowB_set hlt] at hnx
      have HNX := Lib.hid hnx
      have HBN : Hid (Below w.heap.size w (wr.setCell ⟨w1.heap.size, i, none⟩ (.int .u8 3))) := hb.out.grown (only_setCell (only_refl wr (some w1.heap.size)) (.inl rfl) _) hb.out.size (fun q e => by injection e with e; omega)
      clear hnx
      go_wp2_with fail
      exact ⟨⟨i + 1, by omega, by go_num, HBN, HNX⟩, by simp [intOf]; omega⟩
    · obtain rfl : i = k := by omega
      rw [rowB_full] at hbk
      have hbi : BytesIn wr (some ⟨w1.heap.size, 0, none⟩) i (List.replicate i 3) := ⟨by simp, by omega, blk_reads hbk.out (by simp [Lib.byteCells])⟩
      have HK := Lib.hid ((below_keeps hb.out).and hbi.keeps)
      have ct := take_walk _ _ _ wr (by simp; omega) hbi.1 hbi.2.1 hbi.2.2
      rw [HE1.out, List.length_replicate] at ct
      have CT := Lib.hid ct
      clear ct hb hbk hbi
      go_wp2_with fail
      with_reducible refine CT.out.mono ?_
      rintro _ w2 ⟨rfl, hb2⟩
      have HK := Lib.hid ((HK.out.on hb2).alloc (.cells #[.int .i64 0, .int .i64 0, .string ⟨#[]⟩, .slice none 0 0] 24))
      clear CT hb2
      have hrb := HK.out.now.2.2.2
      rw [List.length_replicate] at hrb
      have HL9 : Hid ((List.replicate i (3 : UInt8) ++ [9]).length = i + 1) := by show _ = _; simp
      go_wp2_with (first
        | (refine wpList_store_fresh w2 rfl 24 _ _ rfl _ #[.int .i64 0, .int .i64 0, .string ⟨#[]⟩, .slice none 0 0] _ rfl rfl rfl term_size (ones4 _ _ _ _ _ _) ?_; (generalize (w2.alloc (.cells #[.int .i64 0, .int .i64 0, .string ⟨#[]⟩, .slice none 0 0] 24)) = w9 at HK hrb ⊢))
        | (at_builtin; first
          | (refine wpList_append_sl (w9.alloc (.cells #[] 5)) rfl (.tmp 53) (.tmp 54) 28 rfl w9.heap.size 5 i0 (.int .u8 0) 1 1 Try.underlying28 hi hz0 hz1 hz2 rfl (by decide) (.slice (some ⟨w9.heap.size, 0, none⟩) 0 0) 0 [] rfl (own_empty w9 _) w9.heap.size (some ⟨w1.heap.size, 0, none⟩) i i (Lib.byteCells (List.replicate i 3)) rfl (hrb.alloc (Nat.le_refl _) _) (byteCells_ones _) (by unfold maxLen; omega) (by omega) (by simp) i (Nat.zero_add _) (Lib.byteCells (List.replicate i 3)) (List.nil_append _) ?_; intro A5 c5 w5 hc5 hown5 hg5; have hb5 := grown_below ((Below.refl w9.heap.size w9).alloc (Nat.le_refl _) (.cells #[] 5)) (own_empty w9 _) hg5 (by simp))
          | (refine wpList_append_sl (w5.alloc (.cells #[.int .u8 9] 5)) rfl (.tmp 55) (.tmp 56) 28 rfl w9.heap.size 5 i0 (.int .u8 0) 1 1 Try.underlying28 hi hz0 hz1 hz2 rfl (by decide) (.slice A5 i c5) i (Lib.byteCells (List.replicate i 3)) rfl (hown5.alloc _) (w5.heap.size + 1) (some ⟨w5.heap.size, 0, none⟩) 1 1 (Lib.byteCells [9]) rfl (reads_new w5 5 [.int .u8 9]) (byteCells_ones _) (by unfold maxLen; omega) (by omega) (by have := hb5.size; simp; omega) (List.replicate i (3 : UInt8) ++ [9]).length HL9.out.symm (Lib.byteCells (List.replicate i 3 ++ [9])) (by rw [byteCells_append]) ?_; intro A6 c6 w6 hc6 hown6 hg6; have hb6 := grown_below (hb5.alloc hb5.size (.cells #[.int .u8 9] 5)) (hown5.alloc _) hg6 (by have := hb5.size; simp; omega))))
      obtain ⟨_, hbi6⟩ := BytesIn.of_own hown6
      have ct := take_walk _ A6 c6 w6 (by rw [HL9.out]; omega) hbi6.1 hbi6.2.1 hbi6.2.2
      rw [HE2.out, HL9.out] at ct
      have HK := Lib.hid (HK.out.on hb6)
      with_reducible refine ct.mono ?_
      rintro _ w7 ⟨rfl, hb7⟩
      have HB7 := Lib.hid (((HK.out.on hb7).mono (fun X h => h.1)).alloc (.cells #[.int .i64 0, .int .i64 0, .string ⟨#[]⟩, .slice none 0 0] 24))
      clear ct hb7 hbi6 hb6 hb5 hown5 hown6 hg5 hg6 hrb hc5 hc6 HK
      go_wp2_with (refine wpList_store_fresh w7 rfl 24 _ _ rfl _ #[.int .i64 0, .int .i64 0, .string ⟨#[]⟩, .slice none 0 0] _ rfl rfl rfl term_size (ones4 _ _ _ _ _ _) ?_)
      generalize (w7.alloc (.cells #[.int .i64 0, .int .i64 0, .string ⟨#[]⟩, .slice none 0 0] 24)) = w8 at HB7 ⊢
      go_loopw [15, 16] (fun cv iv wr => ∃ l : Nat, l ≤ j ∧ iv = .int .i64 l ∧ Hid (Below w8.heap.size w8 wr) ∧ Hid (wr.ownsRow w8.heap.size 5 1 cv (pairs l).length (Lib.byteCells (pairs l)))) (fun _ iv _ => j - (intOf iv).toNat)
      case atStart => exact ⟨0, by omega, rfl, Below.refl _ _, World.ownsRow_nil _ _ _ _⟩
      case round =>
        obtain ⟨l, hlj, rfl, hb, hown⟩ := hrel
        by_cases hlt : l < j
        · obtain ⟨A5, c5, rfl, hc5, _⟩ := own_reads hown.out (Nat.le_refl _)
          have hlp := pairs_len l
          have HPS : Hid ((pairs l).length + 6 = (pairs (l + 1)).length) := by show _ = _; rw [pairs_len, pairs_len]; omega
          have HPT : Hid (Lib.byteCells (pairs l) ++ Lib.byteCells [7, 2, 0, 0, 0, 1] = Lib.byteCells (pairs (l + 1))) := by show _ = _; rw [pairs_snoc, byteCells_append]
          have hsz := hb.out.size
          have hrd : Reads (wr.alloc (.cells #[.int .u8 7, .int .u8 2, .int .u8 0, .int .u8 0, .int .u8 0, .int .u8 1] 5)) (wr.heap.size + 1) 1 (some ⟨wr.heap.size, 0, none⟩) 6 (Lib.byteCells [7, 2, 0, 0, 0, 1]) := reads_row wr 5 (Lib.byteCells [7, 2, 0, 0, 0, 1])
          go_wp2_with (at_builtin; refine wpList_append_sl (wr.alloc (.cells #[.int .u8 7, .int .u8 2, .int .u8 0, .int .u8 0, .int .u8 0, .int .u8 1] 5)) rfl (.tmp 67) (.tmp 68) 28 rfl w8.heap.size 5 i0 (.int .u8 0) 1 1 Try.underlying28 hi hz0 hz1 hz2 rfl (by decide) (.slice A5 (pairs l).length c5) (pairs l).length (Lib.byteCells (pairs l)) rfl (hown.out.alloc _) (wr.heap.size + 1) (some ⟨wr.heap.size, 0, none⟩) 6 6 (Lib.byteCells [7, 2, 0, 0, 0, 1]) rfl hrd (byteCells_ones _) (by unfold maxLen; omega) (by omega) (by simp; omega) _ HPS.out _ HPT.out ?_; intro A6 c6 w6 hc6 hown6 hg6)
          have hb6 := Lib.hid (grown_below (hb.out.alloc hsz (.cells #[.int .u8 7, .int .u8 2, .int .u8 0, .int .u8 0, .int .u8 0, .int .u8 1] 5)) (hown.out.alloc _) hg6 (by simp; omega))
          have HO6 := Lib.hid hown6
          clear hown6 hg6 hrd hc5 hc6
          go_roundw
          case rel => exact ⟨l + 1, by omega, by go_num, hb6, HO6⟩
          case measure => simp [intOf]; omega
        · obtain rfl : l = j := by omega
          obtain ⟨A5, c5, rfl, hc5, _⟩ := own_reads hown.out (Nat.le_refl _)
          obtain ⟨_, hbi⟩ := BytesIn.of_own hown.out
          have HBW := Lib.hid (HB7.out.on hb.out)
          have ct := take_walk _ A5 c5 wr (by rw [pairs_len]; omega) hbi.1 hbi.2.1 hbi.2.2
          rw [HE3.out] at ct
          have CT := Lib.hid ct
          clear ct hbi hown hb hc5 HB7
          go_wp2_with fail
          with_reducible refine CT.out.mono ?_
          rintro _ wa ⟨rfl, hba⟩
          have HBA := Lib.hid (((HBW.out.on hba).alloc (.cells #[.int .i64 0, .int .i64 0, .string ⟨#[]⟩, .slice none 0 0] 24)).now)
          clear hba CT HBW
          go_upto_if 77 with (refine wpList_store_fresh wa rfl 24 _ _ rfl _ #[.int .i64 0, .int .i64 0, .string ⟨#[]⟩, .slice none 0 0] _ rfl rfl rfl term_size (ones4 _ _ _ _ _ _) ?_)
          by_cases hi16 : 16 ≤ i
          · obtain rfl : e1 = 4 := by have := H1.out; rw [if_pos hi16] at this; exact this.symm
            obtain rfl : e2 = 4 := by have := H2.out; rw [if_pos hi16] at this; exact this.symm
            by_cases hl16 : 16 ≤ l
            · obtain rfl : e3 = 4 := by have := H3.out; rw [if_pos hl16] at this; exact this.symm
              have d1 : decide ((l : Int) < 16) = false := by simp; omega
              have d2 : decide (16 ≤ (l : Int)) = true := by simp; omega
              go_wp2_with fail
              go_ret
              exact ⟨rfl, HBA.out⟩
            · obtain rfl : e3 = 1 := by have := H3.out; rw [if_neg hl16] at this; exact this.symm
              have d1 : decide ((l : Int) < 16) = true := by simp; omega
              have d2 : decide (16 ≤ (l : Int)) = false := by simp; omega
              go_wp2_with fail
              go_ret
              exact ⟨rfl, HBA.out⟩
          · obtain rfl : e1 = 1 := by have := H1.out; rw [if_neg hi16] at this; exact this.symm
            obtain rfl : e2 = 2 := by have := H2.out; rw [if_neg hi16] at this; exact this.symm
            by_cases hl16 : 16 ≤ l
            · obtain rfl : e3 = 4 := by have := H3.out; rw [if_pos hl16] at this; exact this.symm
              have d1 : decide ((l : Int) < 16) = false := by simp; omega
              have d2 : decide (16 ≤ (l : Int)) = true := by simp; omega
              go_wp2_with fail
              go_ret
              exact ⟨rfl, HBA.out⟩
            · obtain rfl : e3 = 1 := by have := H3.out; rw [if_neg hl16] at this; exact this.symm
              have d1 : decide ((l : Int) < 16) = true := by simp; omega
              have d2 : decide (16 ≤ (l : Int)) = false := by simp; omega
              go_wp2_with fail
              go_ret
              exact ⟨rfl, HBA.out⟩
end Go.Proofs.Ytnckjglohaaobaa
