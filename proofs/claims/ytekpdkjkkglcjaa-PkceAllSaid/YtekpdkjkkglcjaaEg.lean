/- l1.One. No condition of its own. -/
import Derived.Test.YtekpdkjkkglcjaaEc
import Derived.Test.YtekpdkjkkglcjaaIb
import Derived.Test.YtekpdkjkkglcjaaDi
set_option linter.unusedVariables false
set_option linter.unusedSimpArgs false
set_option maxRecDepth 20000
namespace Go.Proofs.Ytekpdkjkkglcjaa
open Go.RowKit
def OneLR (zs : List Int) (w : World) (e : Ending) (w' : World) : Prop :=
  ∃ (kd nm : Int) (s : ByteArray) (A : Option Addr) (m c : Nat), e = .returned (.agg #[.int .i64 kd, .int .i64 nm, .string s, .slice A m c]) ∧ TmV w' w.heap.size (oneL zs) [.int .i64 kd, .int .i64 nm, .string s, .slice A m c] ∧ Below w.heap.size w w'
theorem onel_walk (zs : List Int) (A : Option Addr) (c : Nat) (w : World) (h : IntsIn w A c zs) :
    Calls Try.prog 11 #[.slice A zs.length c] w (OneLR zs w) := by
  have hb1 := (Below.refl w.heap.size w).alloc (Nat.le_refl _) (.cells #[.int .i64 0, .int .i64 0, .string ⟨#[]⟩, .slice none 0 0] 35)
  have hb2 := hb1.alloc hb1.size (.cells #[.slice A zs.length c, .int .i64 0] 26)
  have hk := Blk.new (w.alloc (.cells #[.int .i64 0, .int .i64 0, .string ⟨#[]⟩, .slice none 0 0] 35)) 26 #[.slice A zs.length c, .int .i64 0]
  have hx := (Blk.new w 35 #[.int .i64 0, .int .i64 0, .string ⟨#[]⟩, .slice none 0 0]).alloc (.cells #[.slice A zs.length c, .int .i64 0] 26)
  have hs1 : (w.alloc (.cells #[.int .i64 0, .int .i64 0, .string ⟨#[]⟩, .slice none 0 0] 35)).heap.size = w.heap.size + 1 := by simp
  rw [hs1] at hk
  obtain ⟨h1, h2, h3, h4⟩ := h
  have ht : TapeAt ((w.alloc (.cells #[.int .i64 0, .int .i64 0, .string ⟨#[]⟩, .slice none 0 0] 35)).alloc (.cells #[.slice A zs.length c, .int .i64 0] 26)) (w.heap.size + 1) zs 0 :=
    ⟨Nat.zero_le _, h2, h3, A, c, h1, hk, (h4.below hb2).more (Nat.le_succ _)⟩
  have ct := Lib.hid (tape_all 4 (by decide) zs _ 0 _ ht)
  have hsz : ((w.alloc (.cells #[.int .i64 0, .int .i64 0, .string ⟨#[]⟩, .slice none 0 0] 35)).alloc (.cells #[.slice A zs.length c, .int .i64 0] 26)).heap.size = w.heap.size + 2 := by simp
  generalize hW : ((w.alloc (.cells #[.int .i64 0, .int .i64 0, .string ⟨#[]⟩, .slice none 0 0] 35)).alloc (.cells #[.slice A zs.length c, .int .i64 0] 26)) = W at ct hb2 hx hsz
  have hv : Hid (oneL zs = (tapeT 4 zs 0).1) := rfl
  have HB2 := Lib.hid hb2
  have HX := Lib.hid hx
  clear hb1 hb2 hk hs1 h1 h2 h3 h4 ht hx
  go_enter Try.func11, Try.ntmps11
  go_wp2_with fail
  refine ct.out.mono ?_
  rintro _ w1 ⟨kd, nm, s, A1, m1, c1, rfl, htv, _, hg⟩
  have hbx := HX.out.grown hg (fun e => by injection e with e; omega)
  have hb3 := Lib.hid (HB2.out.grown hg HB2.out.size (fun q e => by injection e with e; omega))
  have HTV := Lib.hid htv
  clear ct hg htv
  go_wp2_with (refine wpList_store_blk rfl 35 _ _ rfl w.heap.size _ #[.int .i64 kd, .int .i64 nm, .string s, .slice A1 m1 c1] _ rfl rfl hbx rfl term_size (ones4 _ _ _ _ _ _) ?_)
  refine bodyPost_ret (results_cell_row Try.results11 _ _ w.heap.size _ _ _ _ rfl hbx.setRow Try.underlying35 rfl (by kernel_rfl)) rfl ?_
  exact ⟨_, _, _, _, _, _, rfl, by rw [hv.out]; exact ((HTV.out.grown (setRow_only _ w.heap.size _) (fun q e => by injection e with e; omega)).low (by omega)), below_setRow hb3.out (Nat.le_refl _) _⟩
theorem oneT_err {l : List UInt8} {c : Int} (h : oneT l = .error c) : 1 ≤ c ∧ c ≤ 5 := by
  rw [oneT] at h
  cases hT : takeT l with
  | error c' => rw [hT] at h; injection h with h; have := takeT_err hT; omega
  | ok r =>
    obtain ⟨u, q⟩ := r
    rw [hT] at h
    simp only at h
    split at h
    · injection h with h; omega
    · cases h
end Go.Proofs.Ytekpdkjkkglcjaa
