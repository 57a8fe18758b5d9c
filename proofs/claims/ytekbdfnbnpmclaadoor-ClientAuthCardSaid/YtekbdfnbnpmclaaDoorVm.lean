/- mark.Key and countersignref9.Key. No condition of its own. -/
import Derived.Test.YtekbdfnbnpmclaaDoorVl
set_option linter.unusedVariables false
set_option linter.unusedSimpArgs false
set_option maxRecDepth 20000
namespace Go.Proofs.YtekbdfnbnpmclaaDoor
namespace K9
open Go.RowKit
def keyL (n : Int) : List UInt8 := markT (.mk 2 n ⟨#[]⟩ [])
theorem key_le (n : Int) : (keyL n).length ≤ 131460 := mark_le _
set_option maxHeartbeats 1000000 in
theorem key_walk (n : Int) (w : World) : Calls Tryd.prog 9 #[.int .i64 n] w fun e w' => e = .returned (.string ⟨(keyL n).toArray⟩) ∧ Below w.heap.size w w' := by
  go_enter Tryd.func9, Tryd.ntmps9
  go_wp2_with fail
  refine (n_walk n w).mono ?_
  rintro _ w1 ⟨rfl, hb1⟩
  go_wp2_with fail
  refine (rtext_walk (.mk 2 n ⟨#[]⟩ []) 2 n ⟨#[]⟩ none 0 0 w1 (tm_leaf _ _ _ _ _)).mono ?_
  rintro _ w2 ⟨rfl, hb2⟩
  have HB := Lib.hid (below_next hb1 hb2)
  clear hb1 hb2
  go_wp2_with fail
  go_ret
  exact ⟨rfl, HB.out⟩
set_option maxHeartbeats 1000000 in
theorem pkey_walk (n : Int) (w : World) : Calls Tryd.prog 32 #[.int .i64 n] w fun e w' => e = .returned (.string ⟨(keyL n).toArray⟩) ∧ Below w.heap.size w w' := by
  go_enter Tryd.func32, Tryd.ntmps32
  go_wp2_with fail
  refine (text_walk (.mk 2 n ⟨#[]⟩ []) 2 n ⟨#[]⟩ none 0 0 _ (tm_leaf _ _ _ _ _)).mono ?_
  rintro _ w2 ⟨rfl, hb2⟩
  have HB := Lib.hid hb2
  clear hb2
  go_wp2_with fail
  go_ret
  exact ⟨rfl, HB.out⟩
end K9
end Go.Proofs.YtekbdfnbnpmclaaDoor
