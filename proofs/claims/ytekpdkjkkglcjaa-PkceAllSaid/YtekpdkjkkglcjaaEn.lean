/- countersignref2's reader: node. No condition of its own. -/
import Derived.Test.YtekpdkjkkglcjaaEm
import Derived.Test.YtekpdkjkkglcjaaKp
import Derived.Deep.DeepCutAuto
set_option linter.unusedVariables false
set_option linter.unusedSimpArgs false
set_option maxRecDepth 20000
namespace Go.Proofs.Ytekpdkjkkglcjaa
open Go.RowKit
def RTermR (g : Nat) (l : List UInt8) (r : Except Int (Tm × Nat × Nat)) (w : World) (e : Ending) (w' : World) : Prop :=
  w.grownBy w' (some g) ∧ ∃ (kd nm : Int) (s : ByteArray) (A : Option Addr) (m cp : Nat), e = .returned (.agg #[.int .i64 kd, .int .i64 nm, .string s, .slice A m cp]) ∧
  match r with
  | .error c => RErr w' g c ∧ c ≠ 0
  | .ok (t, q, n') => TmV w' w.heap.size t [.int .i64 kd, .int .i64 nm, .string s, .slice A m cp] ∧ RRd w' g l q n'
def RTermOk (d : Nat) : Prop := ∀ (l : List UInt8) (g p n : Nat) (deep : Int) (w : World), deep + d = 17 → RRd w g l p n →
  Calls Try.prog 68 #[.pointer (some ⟨g, 0, none⟩), .int .i64 deep] w (RTermR g l (decT d l p n) w)
set_option maxRecDepth 20000 in
set_option maxHeartbeats 2000000 in
theorem node_big (l : List UInt8) (g p n : Nat) (deep : Int) (w : World) (h : RRd w g l p n) (hd : n = 64 ∨ deep = 17) (hd2 : deep ≤ 17) (hd3 : 0 ≤ deep) :
    Calls Try.prog 68 #[.pointer (some ⟨g, 0, none⟩), .int .i64 deep] w (RTermR g l (.error 4) w) := by
  have hgl := h.lt
  obtain ⟨h1, h2, h3, A, c, hc, hc2, hk, hr⟩ := h
  have hks : Blk (w.setCell ⟨g, 3, none⟩ (.int .i64 4)) g 93 #[.slice A l.length c, .int .i64 (p : Int), .int .i64 (64 - (n : Int)), .int .i64 4] := hk.set_ 3 (.int .i64 4)
  have c2 : w.cell? ⟨g, 2, none⟩ = some (.int .i64 (64 - (n : Int))) := hk.cell 2
  have c3 : w.cell? ⟨g, 3, none⟩ = some (.int .i64 0) := hk.cell 3
  have f3 := hk.frozen 3
  have hg0 := only_setCell (p := ⟨g, 3, none⟩) (only_refl w (some g)) (.inl rfl) (.int .i64 4)
  have hsz : (w.setCell ⟨g, 3, none⟩ (.int .i64 4)).heap.size = w.heap.size := by simp [World.setCell]
  have hb0 := Blk.new (w.setCell ⟨g, 3, none⟩ (.int .i64 4)) 35 #[.int .i64 0, .int .i64 0, .string ⟨#[]⟩, .slice none 0 0]
  rw [hsz] at hb0
  have HB0 := Lib.hid hb0
  have HG0 := Lib.hid (only_alloc hg0 (.cells #[.int .i64 0, .int .i64 0, .string ⟨#[]⟩, .slice none 0 0] 35))
  have HK0 := Lib.hid (hks.alloc (.cells #[.int .i64 0, .int .i64 0, .string ⟨#[]⟩, .slice none 0 0] 35))
  have hs2 : ((w.setCell ⟨g, 3, none⟩ (.int .i64 4)).alloc (.cells #[.int .i64 0, .int .i64 0, .string ⟨#[]⟩, .slice none 0 0] 35)).heap.size = w.heap.size + 1 := by simp [World.setCell]
  have HSZ := Lib.hid hs2
  clear hk hr hks hb0 hg0 hsz hs2
  by_cases h64 : n = 64
  · have e1 : decide (64 - (n : Int) < 1) = true := by simp; omega
    clear hd h64
    go_enter Try.func68, Try.ntmps68
    go_upto_region 3 with (fail)
    generalize (w.setCell ⟨g, 3, none⟩ (.int .i64 4)).alloc (.cells #[.int .i64 0, .int .i64 0, .string ⟨#[]⟩, .slice none 0 0] 35) = W at HB0 HG0 HK0 HSZ ⊢
    have hb1 := HB0.out.alloc (.cells #[.int .i64 0, .int .i64 0, .string ⟨#[]⟩, .slice none 0 0] 35)
    have hbn := Blk.new W 35 #[.int .i64 0, .int .i64 0, .string ⟨#[]⟩, .slice none 0 0]
    have hk1 := HK0.out.alloc (.cells #[.int .i64 0, .int .i64 0, .string ⟨#[]⟩, .slice none 0 0] 35)
    have d3 : (W.alloc (.cells #[.int .i64 0, .int .i64 0, .string ⟨#[]⟩, .slice none 0 0] 35)).cell? ⟨g, 3, none⟩ = some (.int .i64 4) := hk1.cell 3
    go_wp2_with (first
      | (refine wpList_store_fresh W rfl 35 _ _ rfl _ #[.int .i64 0, .int .i64 0, .string ⟨#[]⟩, .slice none 0 0] _ rfl rfl rfl term_size (ones4 _ _ _ _ _ _) ?_)
      | (refine wpList_load_at rfl 35 _ rfl ⟨W.heap.size, 0, none⟩ rfl [.int .i64 0, .int .i64 0, .string ⟨#[]⟩, .slice none 0 0] _ (blk_cells hbn) Try.underlying35 rfl term_size ?_)
      | (refine wpList_store_blk rfl 35 _ _ rfl w.heap.size _ #[.int .i64 0, .int .i64 0, .string ⟨#[]⟩, .slice none 0 0] _ rfl rfl hb1 rfl term_size (ones4 _ _ _ _ _ _) ?_))
    refine bodyPost_ret (results_cell_row Try.results68 _ _ w.heap.size _ _ _ _ rfl hb1.setRow Try.underlying35 rfl (by kernel_rfl)) rfl ?_
    exact ⟨only_setRow (only_alloc HG0.out _) (Nat.le_refl _) _, 0, 0, ⟨#[]⟩, none, 0, 0, rfl, ⟨_, _, _, hk1.setOther (by omega) _⟩, by decide⟩
  · have e1 : decide (64 - (n : Int) < 1) = false := by simp; omega
    have e2 : decide (16 < deep) = true := by simp; omega
    clear hd h64
    go_enter Try.func68, Try.ntmps68
    go_upto_region 3 with (fail)
    generalize (w.setCell ⟨g, 3, none⟩ (.int .i64 4)).alloc (.cells #[.int .i64 0, .int .i64 0, .string ⟨#[]⟩, .slice none 0 0] 35) = W at HB0 HG0 HK0 HSZ ⊢
    have hb1 := HB0.out.alloc (.cells #[.int .i64 0, .int .i64 0, .string ⟨#[]⟩, .slice none 0 0] 35)
    have hbn := Blk.new W 35 #[.int .i64 0, .int .i64 0, .string ⟨#[]⟩, .slice none 0 0]
    have hk1 := HK0.out.alloc (.cells #[.int .i64 0, .int .i64 0, .string ⟨#[]⟩, .slice none 0 0] 35)
    have d3 : (W.alloc (.cells #[.int .i64 0, .int .i64 0, .string ⟨#[]⟩, .slice none 0 0] 35)).cell? ⟨g, 3, none⟩ = some (.int .i64 4) := hk1.cell 3
    go_wp2_with (first
      | (refine wpList_store_fresh W rfl 35 _ _ rfl _ #[.int .i64 0, .int .i64 0, .string ⟨#[]⟩, .slice none 0 0] _ rfl rfl rfl term_size (ones4 _ _ _ _ _ _) ?_)
      | (refine wpList_load_at rfl 35 _ rfl ⟨W.heap.size, 0, none⟩ rfl [.int .i64 0, .int .i64 0, .string ⟨#[]⟩, .slice none 0 0] _ (blk_cells hbn) Try.underlying35 rfl term_size ?_)
      | (refine wpList_store_blk rfl 35 _ _ rfl w.heap.size _ #[.int .i64 0, .int .i64 0, .string ⟨#[]⟩, .slice none 0 0] _ rfl rfl hb1 rfl term_size (ones4 _ _ _ _ _ _) ?_))
    refine bodyPost_ret (results_cell_row Try.results68 _ _ w.heap.size _ _ _ _ rfl hb1.setRow Try.underlying35 rfl (by kernel_rfl)) rfl ?_
    exact ⟨only_setRow (only_alloc HG0.out _) (Nat.le_refl _) _, 0, 0, ⟨#[]⟩, none, 0, 0, rfl, ⟨_, _, _, hk1.setOther (by omega) _⟩, by decide⟩
end Go.Proofs.Ytekpdkjkkglcjaa
