/- ref1.A and ref1.T; the tape's terms. No condition of its own. -/
import Derived.Test.YtekpdkjkkglcjaaEa
import Derived.Test.YtekpdkjkkglcjaaLt
import Derived.Test.YtekpdkjkkglcjaaDg
set_option linter.unusedVariables false
set_option linter.unusedSimpArgs false
set_option maxRecDepth 20000
namespace Go.Proofs.Ytekpdkjkkglcjaa
open Go.RowKit
theorem a_walk (s : ByteArray) (w : World) : Calls Try.prog 31 #[.string s] w fun e w' => e = .returned (.agg #[.int .i64 1, .int .i64 0, .string s, .slice none 0 0]) ∧ Below w.heap.size w w' := by
  have hb := (Below.refl w.heap.size w).alloc (Nat.le_refl _) (.cells #[.int .i64 0, .int .i64 0, .string ⟨#[]⟩, .slice none 0 0] 35)
  have hbr := Blk.new w 35 #[.int .i64 0, .int .i64 0, .string ⟨#[]⟩, .slice none 0 0]
  go_enter Try.func31, Try.ntmps31
  go_wp2_with (refine wpList_store_blk rfl 35 _ _ rfl w.heap.size _ #[.int .i64 1, .int .i64 0, .string s, .slice none 0 0] _ rfl rfl hbr rfl term_size (ones4 _ _ _ _ _ _) ?_)
  refine bodyPost_ret (results_cell_row Try.results31 _ _ w.heap.size _ _ _ _ rfl hbr.setRow Try.underlying35 rfl (by kernel_rfl)) rfl ⟨rfl, below_setRow hb (Nat.le_refl _) _⟩
theorem t_walk (kd : Int) (A : Option Addr) (m c : Nat) (w : World) : Calls Try.prog 19 #[.int .i64 kd, .slice A m c] w fun e w' => e = .returned (.agg #[.int .i64 kd, .int .i64 0, .string ⟨#[]⟩, .slice A m c]) ∧ Below w.heap.size w w' := by
  have hb := (Below.refl w.heap.size w).alloc (Nat.le_refl _) (.cells #[.int .i64 0, .int .i64 0, .string ⟨#[]⟩, .slice none 0 0] 35)
  have hbr := Blk.new w 35 #[.int .i64 0, .int .i64 0, .string ⟨#[]⟩, .slice none 0 0]
  go_enter Try.func19, Try.ntmps19
  go_wp2_with (refine wpList_store_blk rfl 35 _ _ rfl w.heap.size _ #[.int .i64 kd, .int .i64 0, .string ⟨#[]⟩, .slice A m c] _ rfl rfl hbr rfl term_size (ones4 _ _ _ _ _ _) ?_)
  refine bodyPost_ret (results_cell_row Try.results19 _ _ w.heap.size _ _ _ _ rfl hbr.setRow Try.underlying35 rfl (by kernel_rfl)) rfl ⟨rfl, below_setRow hb (Nat.le_refl _) _⟩
def TapeR (zs : List Int) (g : Nat) (r : Tm × Nat) (w : World) (e : Ending) (w' : World) : Prop :=
  ∃ (kd nm : Int) (s : ByteArray) (A : Option Addr) (m c : Nat), e = .returned (.agg #[.int .i64 kd, .int .i64 nm, .string s, .slice A m c]) ∧ TmV w' w.heap.size r.1 [.int .i64 kd, .int .i64 nm, .string s, .slice A m c] ∧ TapeAt w' g zs r.2 ∧ w.grownBy w' (some g)
def TapeOk (d : Nat) : Prop := ∀ (zs : List Int) (g k : Nat) (w : World), TapeAt w g zs k →
  Calls Try.prog 23 #[.pointer (some ⟨g, 0, none⟩), .int .i64 (d : Int)] w (TapeR zs g (tapeT d zs k) w)
/-- where the walk of Term stands: the tape, what was there, the answer's place -/
def TSt (w : World) (g : Nat) (zs : List Int) (k : Nat) (W : World) : Prop := TapeAt W g zs k ∧ w.grownBy W (some g) ∧ Blk W w.heap.size 35 #[.int .i64 0, .int .i64 0, .string ⟨#[]⟩, .slice none 0 0] ∧ g < w.heap.size
section
variable {w W W' : World} {g k k' : Nat} {zs : List Int}
theorem TSt.start (h : TapeAt w g zs k) : TSt w g zs k (w.alloc (.cells #[.int .i64 0, .int .i64 0, .string ⟨#[]⟩, .slice none 0 0] 35)) :=
  ⟨h.grown (World.grownBy_alloc _ _ none) (fun q e => by cases e), World.grownBy_alloc _ _ _, Blk.new _ _ _, h.lt⟩
theorem TSt.alloc (h : TSt w g zs k W) (o : Obj) : TSt w g zs k (W.alloc o) :=
  ⟨h.1.grown (World.grownBy_alloc _ _ none) (fun q e => by cases e), row_trans h.2.1 (World.grownBy_alloc _ _ _), h.2.2.1.alloc o, h.2.2.2⟩
theorem TSt.below (h : TSt w g zs k W) (hb : Below W.heap.size W W') : TSt w g zs k W' :=
  ⟨h.1.below (hb.mono (by have := h.1.lt; omega)), row_trans h.2.1 (below_row hb _), h.2.2.1.below hb h.2.2.1.lt, h.2.2.2⟩
theorem TSt.tape (h : TSt w g zs k W) (ht : TapeAt W' g zs k') (hg : W.grownBy W' (some g)) : TSt w g zs k' W' :=
  ⟨ht, row_trans h.2.1 hg, h.2.2.1.grown hg (fun e => by injection e with e; have := h.2.2.2; omega), h.2.2.2⟩
theorem TSt.drewN (h : TSt w g zs k W) (n : Nat) : TSt w g zs k (W.drewN n) := ⟨h.1, only_drewN h.2.1 n, h.2.2.1, h.2.2.2⟩
theorem TSt.size (h : TSt w g zs k W) : w.heap.size < W.heap.size := h.2.2.1.lt
theorem TSt.store (h : TSt w g zs k W) (cs : Array Value) : TapeAt (W.setRow w.heap.size cs) g zs k ∧ w.grownBy (W.setRow w.heap.size cs) (some g) ∧ Blk (W.setRow w.heap.size cs) w.heap.size 35 cs :=
  ⟨h.1.grown (setRow_only _ _ _) (fun q e => by injection e with e; have := h.2.2.2; omega), only_setRow h.2.1 (Nat.le_refl _) _, h.2.2.1.setRow⟩
end
theorem reads_atoms (w : World) (e : TypeId) : Reads (w.alloc (.cells #[.string ⟨#[]⟩, .string ⟨#[97]⟩, .string ⟨#[98]⟩, .string ⟨#[97, 98]⟩, .string ⟨#[0]⟩, .string ⟨#[126]⟩, .string ⟨#[97, 108, 105, 99, 101]⟩, .string ⟨#[99, 49]⟩, .string ⟨#[126, 65, 103, 65, 65, 65, 65, 69, 126]⟩] e)) (w.heap.size + 1) 1 (some ⟨w.heap.size, 0, none⟩) 9 (atoms9.map Value.string) :=
  reads_row w e (atoms9.map Value.string)
theorem tape_in (k : Nat) (h : k < 8) : ∃ v, nums8[k]? = some v := by
  exact ⟨_, List.getElem?_eq_getElem (by exact h)⟩
set_option maxHeartbeats 4000000 in
theorem tape_zero : TapeOk 0 := by
  intro zs g k w ht
  have hst := TSt.start ht
  have cn := Lib.hid (next_walk zs g k 10 _ hst.1 (by omega))
  have hr := nextR_pos zs k 10 (by omega)
  have hv : Hid (tapeT 0 zs k = leafT (nextR zs k 10 % 5) zs (nextA zs k 10)) := by show _ = _; rw [tapeT]
  generalize nextR zs k 10 = r at cn hr hv
  generalize nextA zs k 10 = k1 at cn hv
  obtain ⟨q, hq⟩ : ∃ q, r % 5 = q := ⟨_, rfl⟩
  have hq0 : 0 ≤ q := by omega
  rw [hq] at hv
  have HST := Lib.hid hst
  clear hst ht
  by_cases h2 : q < 2
  · have hv2 : Hid (tapeT 0 zs k = (.mk 1 0 (atoms9.getD (nextR zs k1 9).toNat ⟨#[]⟩) [], nextA zs k1 9)) := by show _ = _; rw [hv.out, leafT, if_pos h2]
    clear hv
    go_enter Try.func23, Try.ntmps23
    go_wp2_with fail
    refine cn.out.mono ?_
    rintro _ w1 ⟨rfl, ht1, hg1, hs1⟩
    have hst1 := HST.out.tape ht1 hg1
    have cp := Lib.hid (pick_walk zs g k1 (some ⟨w1.heap.size, 0, none⟩) 9 (w1.heap.size + 1) atoms9 (by decide) (by decide) (by decide) _ (hst1.alloc _).1 (reads_atoms w1 9) (by simp) (fun p e => by injection e with e; rw [← e]; have := hst1.1.lt; simp; omega))
    have HST1 := Lib.hid (hst1.alloc (.cells #[.string ⟨#[]⟩, .string ⟨#[97]⟩, .string ⟨#[98]⟩, .string ⟨#[97, 98]⟩, .string ⟨#[0]⟩, .string ⟨#[126]⟩, .string ⟨#[97, 108, 105, 99, 101]⟩, .string ⟨#[99, 49]⟩, .string ⟨#[126, 65, 103, 65, 65, 65, 65, 69, 126]⟩] 9))
    clear hg1 ht1 hs1 hst1 cn HST
    go_wp2_with fail
    refine cp.out.mono ?_
    rintro _ w2 ⟨rfl, ht2, hg2, hs2⟩
    have hst2 := HST1.out.tape ht2 hg2
    clear ht2 hg2 hs2 HST1 cp
    go_wp2_with fail
    refine (a_walk _ _).mono ?_
    rintro _ w3 ⟨rfl, hb3⟩
    have hst3 := hst2.below hb3
    have hbx := hst3.2.2.1
    have HF := Lib.hid (hst3.store)
    clear hst2 hb3 hst3
    go_wp2_with (refine wpList_store_blk rfl 35 _ _ rfl w.heap.size _ #[.int .i64 1, .int .i64 0, .string _, .slice none 0 0] _ rfl rfl hbx rfl term_size (ones4 _ _ _ _ _ _) ?_)
    refine bodyPost_ret (results_cell_row Try.results23 _ _ w.heap.size _ _ _ _ rfl (HF.out _).2.2 Try.underlying35 rfl (by kernel_rfl)) rfl ?_
    rw [hv2.out]
    exact ⟨_, _, _, _, _, _, rfl, tm_leaf _ _ _ _ _, (HF.out _).1, (HF.out _).2.1⟩
  · have hv2 : Hid (tapeT 0 zs k = (.mk 2 (nums8.getD (nextR zs k1 8).toNat 0) ⟨#[]⟩ [], nextA zs k1 8)) := by show _ = _; rw [hv.out, leafT, if_neg h2]
    have h5 : q < 5 := by omega
    have hn8 := nextR_pos zs k1 8 (by omega)
    clear hv
    go_enter Try.func23, Try.ntmps23
    go_wp2_with fail
    refine cn.out.mono ?_
    rintro _ w1 ⟨rfl, ht1, hg1, hs1⟩
    have hst1 := (HST.out.tape ht1 hg1).alloc (.cells #[.int .i64 1, .int .i64 2, .int .i64 3, .int .i64 4, .int .i64 5, .int .i64 0, .int .i64 300, .int .i64 1073741824] 3)
    have hb1 := Blk.new w1 3 #[.int .i64 1, .int .i64 2, .int .i64 3, .int .i64 4, .int .i64 5, .int .i64 0, .int .i64 300, .int .i64 1073741824]
    have cm := Lib.hid (next_walk zs g k1 8 _ hst1.1 (by omega))
    have HL := hst1.2.2.2
    have HSZ := (HST.out.tape ht1 hg1).size
    have HST1 := Lib.hid hst1
    clear hg1 ht1 hs1 hst1 cn HST
    go_wp2_with fail
    refine cm.out.mono ?_
    rintro _ w2 ⟨rfl, ht2, hg2, hs2⟩
    have hst2 := HST1.out.tape ht2 hg2
    have hb2 := hb1.grown hg2 (fun e => by injection e with e; omega)
    obtain ⟨j, hj⟩ : ∃ j : Nat, nextR zs k1 8 = j := ⟨_, (Int.toNat_of_nonneg hn8.1).symm⟩
    rw [hj] at hn8 hv2 ⊢
    rw [Int.toNat_natCast] at hv2
    have hj8 : j < 8 := by omega
    obtain ⟨v, hvj⟩ := tape_in j hj8
    have hvd : Hid (nums8.getD j 0 = v) := by show _ = _; rw [List.getD_eq_getElem?_getD, hvj]; rfl
    have hcell : w2.cell? ⟨w1.heap.size, j, none⟩ = some (.int .i64 v) := by
      rw [hb2.cell, show (#[.int .i64 1, .int .i64 2, .int .i64 3, .int .i64 4, .int .i64 5, .int .i64 0, .int .i64 300, .int .i64 1073741824] : Array Value) = (nums8.map (Value.int .i64)).toArray from rfl]
      simp [hvj]
    clear ht2 hg2 hs2 HST1 cm hb1 hb2 hvj hj
    go_wp2_with fail
    refine (n_walk _ _).mono ?_
    rintro _ w3 ⟨rfl, hb3⟩
    have hst3 := hst2.below hb3
    have hbx := hst3.2.2.1
    have HF := Lib.hid (hst3.store)
    clear hst2 hb3 hst3
    go_wp2_with (refine wpList_store_blk rfl 35 _ _ rfl w.heap.size _ #[.int .i64 2, .int .i64 _, .string ⟨#[]⟩, .slice none 0 0] _ rfl rfl hbx rfl term_size (ones4 _ _ _ _ _ _) ?_)
    refine bodyPost_ret (results_cell_row Try.results23 _ _ w.heap.size _ _ _ _ rfl (HF.out _).2.2 Try.underlying35 rfl (by kernel_rfl)) rfl ?_
    rw [hv2.out]
    exact ⟨_, _, _, _, _, _, rfl, by rw [hvd.out]; exact tm_leaf _ _ _ _ _, (HF.out _).1, (HF.out _).2.1⟩
end Go.Proofs.Ytekpdkjkkglcjaa
