/- countersignref2.Put. No condition of its own. -/
import Derived.Test.YtekpdkjkkglcjaaEk
import Derived.Test.YtekpdkjkkglcjaaDo
set_option linter.unusedVariables false
set_option linter.unusedSimpArgs false
set_option maxRecDepth 20000
namespace Go.Proofs.Ytekpdkjkkglcjaa
open Go.RowKit
set_option maxHeartbeats 2000000 in
theorem rputm_walk (t : Tm) (kind n : Int) (s : ByteArray) (A : Option Addr) (m c : Nat) (w : World) (ht : TmV w 0 t [.int .i64 kind, .int .i64 n, .string s, .slice A m c]) :
    Calls Try.prog 26 #[.agg #[.int .i64 kind, .int .i64 n, .string s, .slice A m c]] w (OwnP w (putT t)) := by
  have hb1 := (Below.refl w.heap.size w).alloc (Nat.le_refl _) (.cells #[.int .i64 kind, .int .i64 n, .string s, .slice A m c] 35)
  have hbx := Blk.new w 35 #[.int .i64 kind, .int .i64 n, .string s, .slice A m c]
  have cm := Lib.hid (rmay_walk t kind n s A m c _ (ht.below hb1))
  have HB1 := Lib.hid hb1
  have HBX := Lib.hid hbx
  cases hM : mayB t
  · have hv : Hid (putT t = []) := by show _ = _; rw [putT, hM]; rfl
    rw [hM] at cm
    clear hM hb1
    go_enter Try.func26, Try.ntmps26
    go_wp2_with (refine wpList_load_at rfl 35 _ rfl ⟨w.heap.size, 0, none⟩ rfl [.int .i64 kind, .int .i64 n, .string s, .slice A m c] _ (blk_cells hbx) Try.underlying35 rfl term_size ?_)
    refine cm.out.mono ?_
    rintro _ w1 ⟨rfl, hbn⟩
    have hb2 := Lib.hid (below_next HB1.out hbn)
    clear hbn
    go_wp2_with fail
    go_ret
    rw [hv.out]
    exact ⟨_, rfl, World.ownsRow_nil _ _ _ _, hb2.out⟩
  · have hv : Hid (putT t = encT t) := by show _ = _; rw [putT, hM]; rfl
    have hle := enc_bound hM
    rw [hM] at cm
    clear hM hb1
    go_enter Try.func26, Try.ntmps26
    go_wp2_with (refine wpList_load_at rfl 35 _ rfl ⟨w.heap.size, 0, none⟩ rfl [.int .i64 kind, .int .i64 n, .string s, .slice A m c] _ (blk_cells hbx) Try.underlying35 rfl term_size ?_)
    refine cm.out.mono ?_
    rintro _ w1 ⟨rfl, hbn⟩
    have hbx1 := hbx.below hbn (by simp)
    have hb2 := below_next HB1.out hbn
    have cp := Lib.hid (rput_all t w _ [] (.slice none 0 0) w1 ht (by simp; omega) (World.ownsRow_nil _ _ _ _) hb2)
    clear hbn hb2
    go_wp2_with (refine wpList_load_at rfl 35 _ rfl ⟨w.heap.size, 0, none⟩ rfl [.int .i64 kind, .int .i64 n, .string s, .slice A m c] _ (blk_cells hbx1) Try.underlying35 rfl term_size ?_)
    refine cp.out.mono ?_
    rintro _ w2 ⟨v, rfl, hown, hb3, _⟩
    have HO := Lib.hid hown
    have HB3 := Lib.hid hb3
    clear hown hb3 cp
    go_wp2_with fail
    go_ret
    rw [hv.out]
    exact ⟨_, rfl, HO.out, HB3.out⟩
end Go.Proofs.Ytekpdkjkkglcjaa
