import Derived.Test.YtekpdkjkkglcjaaMb
set_option linter.unusedVariables false
set_option linter.unusedSimpArgs false
set_option maxRecDepth 20000
namespace Go.Proofs.Ytekpdkjkkglcjaa
open Go.RowKit B64
set_option maxHeartbeats 400000 in
theorem three_walk (x0 x1 x2 x3 : Nat) (w : World) (h0 : x0 < 64) (h1 : x1 < 64) (h2 : x2 < 64) (h3 : x3 < 64) :
    Calls Try.prog 66 #[.agg #[.int .u8 x0, .int .u8 x1, .int .u8 x2, .int .u8 x3]] w fun e w' => e = .returned (.agg #[.int .u8 (thr x0 x1 x2 x3 0 : Nat), .int .u8 (thr x0 x1 x2 x3 1 : Nat), .int .u8 (thr x0 x1 x2 x3 2 : Nat)]) ∧ Below w.heap.size w w' := by
  go_enter Try.func66, Try.ntmps66
  go_wp2
  rw [thr0 x0 x1 x2 x3 h0 h1 h2 h3, thr1 x0 x1 x2 x3 h1 h2 h3, thr2 x0 x1 x2 x3 h2 h3]
  exact bodyPost_ret (v := .agg #[.int .u8 (thr x0 x1 x2 x3 0 : Nat), .int .u8 (thr x0 x1 x2 x3 1 : Nat), .int .u8 (thr x0 x1 x2 x3 2 : Nat)]) (by simp [results, Try.results66, go_sem]) rfl ⟨rfl, ((Below.refl _ _).alloc (Nat.le_refl _) _).alloc (by simp) _⟩
end Go.Proofs.Ytekpdkjkkglcjaa
