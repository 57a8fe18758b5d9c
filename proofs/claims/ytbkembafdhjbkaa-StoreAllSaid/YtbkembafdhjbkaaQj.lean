import Derived.Test.YtbkembafdhjbkaaQi
import Derived.Test.YtbkembafdhjbkaaIw
set_option linter.unusedVariables false
namespace Go.Proofs.Ytbkembafdhjbkaa
open Go.RowKit
/-- what is known of a record that was made of numbers -/
def RecOf (r : Rc) : Prop := (1 ≤ r.kind ∧ r.kind ≤ 6) ∧ (1 ≤ r.key ∧ r.key ≤ 30) ∧ (0 ≤ r.till ∧ r.till ≤ 39) ∧ (0 ≤ r.fam ∧ r.fam ≤ 3)
theorem next_some (zs : List Int) (g k : Nat) (n : Int) (w : World) (ht : TapeAt w g zs k) (hn : 1 ≤ n ∧ n ≤ 1000) :
    Calls Try.prog 32 #[.pointer (some ⟨g, 0, none⟩), .int .i64 n] w fun e w' => ∃ (v : Int) (k' : Nat), (0 ≤ v ∧ v < n) ∧ e = .returned (.int .i64 v) ∧ Hid (TapeAt w' g zs k') ∧ k ≤ k' ∧ Hid (w.grownBy w' (some g)) ∧ w'.heap.size = w.heap.size := by
  refine (next_walk zs g k n w ht (by omega)).mono ?_
  rintro _ w1 ⟨rfl, h1, h2, h3⟩
  refine ⟨_, _, nextR_pos zs k n hn.1, rfl, h1, ?_, h2, h3⟩
  unfold nextA
  split <;> omega
theorem setRow_only (w : World) (b : Nat) (cs : Array Value) : w.grownBy (w.setRow b cs) (some b) :=
  ⟨rfl, rfl, rfl, by simp, fun i _ hne => setRow_other w b i cs (fun e => hne (by rw [e]))⟩
theorem only_setRow {a w : World} {row : Option Nat} (h : a.grownBy w row) {b : Nat} (hb : a.heap.size ≤ b) (cs : Array Value) : a.grownBy (w.setRow b cs) row :=
  ⟨h.os, h.tape, h.output, by rw [size_setRow]; exact h.size, fun i hi hne => (setRow_other w b i cs (by omega)).trans (h.block i hi hne)⟩
set_option maxHeartbeats 2000000 in
set_option maxRecDepth 100000 in
theorem rec_walk (zs : List Int) (g k : Nat) (w : World) (ht : TapeAt w g zs k) :
    Calls Try.prog 16 #[.pointer (some ⟨g, 0, none⟩)] w fun e w' => ∃ (r : Rc) (k' : Nat), e = .returned (.agg r.arr) ∧ RecOf r ∧ k ≤ k' ∧ TapeAt w' g zs k' ∧ w.grownBy w' (some g) := by
  have hgl := ht.lt
  have hg0 : Hid (w.grownBy (w.alloc (.cells Rc.none.arr 32)) (some g)) := only_alloc (only_refl _ _) _
  have ht0 := Lib.hid (ht.grown (only_alloc (only_refl w none) (.cells Rc.none.arr 32)) (fun r e => by cases e))
  have hb0 : Hid (Blk (w.alloc (.cells Rc.none.arr 32)) w.heap.size 32 Rc.none.arr) := Blk.new _ _ _
  have hne : Hid (some w.heap.size ≠ some g) := fun e => by injection e with e; omega
  clear ht
  go_enter Try.func16, Try.ntmps16
  go_wp2_with fail
  refine (next_some zs g k 6 _ ht0.out (by omega)).mono ?_
  rintro _ w1 ⟨v1, k1, hv1, rfl, ht1, hk1, hgr, hs1⟩
  have hg1 := Lib.hid (only_trans hg0.out hgr.out)
  have hb1 := Lib.hid (hb0.out.grown hgr.out hne.out)
  clear ht0 hgr hg0 hb0 hs1
  go_wp2_with fail
  refine (next_some zs g k1 30 _ ht1.out (by omega)).mono ?_
  rintro _ w2 ⟨v2, k2, hv2, rfl, ht2, hk2, hgr, hs2⟩
  have hg2 := Lib.hid (only_trans hg1.out hgr.out)
  have hb2 := Lib.hid (hb1.out.grown hgr.out hne.out)
  clear ht1 hgr hg1 hb1 hs2
  go_wp2_with fail
  refine (next_some zs g k2 40 _ ht2.out (by omega)).mono ?_
  rintro _ w3 ⟨v3, k3, hv3, rfl, ht3, hk3, hgr, hs3⟩
  have hg3 := Lib.hid (only_trans hg2.out hgr.out)
  have hb3 := Lib.hid (hb2.out.grown hgr.out hne.out)
  clear ht2 hgr hg2 hb2 hs3
  go_wp2_with fail
  refine (next_some zs g k3 4 _ ht3.out (by omega)).mono ?_
  rintro _ w4 ⟨v4, k4, hv4, rfl, ht4, hk4, hgr, hs4⟩
  have hg4 := Lib.hid (only_trans hg3.out hgr.out)
  have hb4 := Lib.hid (hb3.out.grown hgr.out hne.out)
  clear ht3 hgr hg3 hb3 hs4
  obtain ⟨u4, hu4⟩ : ∃ u4, (v4 == 0) = u4 := ⟨_, rfl⟩
  go_wp2_with fail
  refine (next_some zs g k4 2 _ ht4.out (by omega)).mono ?_
  rintro _ w5 ⟨v5, k5, hv5, rfl, ht5, hk5, hgr, hs5⟩
  have hg5 := Lib.hid (only_trans hg4.out hgr.out)
  have hb5 := Lib.hid (hb4.out.grown hgr.out hne.out)
  clear ht4 hgr hg4 hb4 hs5
  go_wp2_with fail
  refine (next_some zs g k5 3 _ ht5.out (by omega)).mono ?_
  rintro _ w6 ⟨v6, k6, hv6, rfl, ht6, hk6, hgr, hs6⟩
  have hg6 := Lib.hid (only_trans hg5.out hgr.out)
  have hb6 := Lib.hid (hb5.out.grown hgr.out hne.out)
  clear ht5 hgr hg5 hb5 hs6
  go_wp2_with fail
  refine (next_some zs g k6 4 _ ht6.out (by omega)).mono ?_
  rintro _ w7 ⟨v7, k7, hv7, rfl, ht7, hk7, hgr, hs7⟩
  have hg7 := Lib.hid (only_trans hg6.out hgr.out)
  have hb7 := Lib.hid (hb6.out.grown hgr.out hne.out)
  clear ht6 hgr hg6 hb6 hs7
  go_wp2_with fail
  refine (next_some zs g k7 3 _ ht7.out (by omega)).mono ?_
  rintro _ w8 ⟨v8, k8, hv8, rfl, ht8, hk8, hgr, hs8⟩
  have hg8 := Lib.hid (only_trans hg7.out hgr.out)
  have hb8 := Lib.hid (hb7.out.grown hgr.out hne.out)
  have hl8 := ht8.out.lt
  clear ht7 hgr hg7 hb7 hs8
  go_wp2_with fail
  refine (pick_walk zs g k8 _ 2 (w8.heap.size + 1) [⟨#[97]⟩, ⟨#[98]⟩] (by decide) (by decide) (by decide) _ ?ht ?hr ?hB ?hne).mono ?_
  case ht => exact ht8.out.grown (only_alloc (only_refl _ none) _) (fun r e => by cases e)
  case hr => exact reads_row w8 9 ([⟨#[97]⟩, ⟨#[98]⟩].map Value.string)
  case hB => simp
  case hne => intro p e; injection e with e; subst e; simp; omega
  have hk9 : k8 ≤ nextA zs k8 2 := by unfold nextA; split <;> omega
  generalize ([⟨#[97]⟩, ⟨#[98]⟩] : List ByteArray).getD _ ByteArray.empty = s
  rintro _ w9 ⟨rfl, ht9, hgr, hs9⟩
  have hg9 : w.grownBy w9 (some g) := only_trans (only_alloc hg8.out _) hgr
  have hb9 := (hb8.out.alloc _).grown hgr hne.out
  have HG := Lib.hid hg9
  have HT := Lib.hid ht9
  clear ht8 hgr hg8 hb8 hs9 hg9 ht9
  go_wp2_with (refine wpList_store_blk rfl 32 _ _ rfl w.heap.size _ _ _ rfl rfl hb9 rfl rec_size (Rc.ones ⟨1 + v1, 1 + v2, v3, u4, 1 + v5, v6, v8, v7, ⟨#[]⟩, ⟨#[]⟩, s, ⟨#[]⟩, ⟨#[]⟩, ⟨#[]⟩, ⟨#[]⟩⟩) ?_)
  refine bodyPost_ret (results_cell_row Try.results16 _ _ w.heap.size _ _ _ _ rfl hb9.setRow Try.underlying32 rfl (by kernel_rfl)) rfl ?_
  refine ⟨⟨1 + v1, 1 + v2, v3, u4, 1 + v5, v6, v8, v7, ⟨#[]⟩, ⟨#[]⟩, s, ⟨#[]⟩, ⟨#[]⟩, ⟨#[]⟩, ⟨#[]⟩⟩, _, rfl, ?_, ?_, HT.out.grown (setRow_only w9 w.heap.size _) (fun r e => by injection e with e; omega), only_setRow HG.out (Nat.le_refl _) _⟩
  · refine ⟨⟨?_, ?_⟩, ⟨?_, ?_⟩, ⟨?_, ?_⟩, ⟨?_, ?_⟩⟩ <;> simp only <;> omega
  · show k ≤ nextA zs k8 2
    omega
end Go.Proofs.Ytbkembafdhjbkaa
