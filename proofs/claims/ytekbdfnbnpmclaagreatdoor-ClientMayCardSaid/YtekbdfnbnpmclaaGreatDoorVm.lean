/- mark.Key and countersignref9.Key. No condition of its own. -/
import Derived.Test.YtekbdfnbnpmclaaGreatDoorVl
set_option linter.unusedVariables false
set_option linter.unusedSimpArgs false
set_option maxRecDepth 20000
namespace Go.Proofs.YtekbdfnbnpmclaaGreatDoor
namespace K9
open Go.RowKit
def keyL (n : Int) : List UInt8 := markT (.mk 2 n ⟨#[]⟩ [])
theorem key_le (n : Int) : (keyL n).length ≤ 131460 := mark_le _
set_option maxHeartbeats 1000000 in
theorem pkey_walk (n : Int) (w : World) : Calls Tryz.prog 34 #[.int .i64 n] w fun e w' => e = .returned (.string ⟨(keyL n).toArray⟩) ∧ Below w.heap.size w w' := by
  go_enter Tryz.func34, Tryz.ntmps34
  go_wp2_with fail
  refine (text_walk (.mk 2 n ⟨#[]⟩ []) 2 n ⟨#[]⟩ none 0 0 _ (tm_leaf _ _ _ _ _)).mono ?_
  rintro _ w2 ⟨rfl, hb2⟩
  have HB := Lib.hid hb2
  clear hb2
  go_wp2_with fail
  go_ret
  exact ⟨rfl, HB.out⟩
end K9
end Go.Proofs.YtekbdfnbnpmclaaGreatDoor
