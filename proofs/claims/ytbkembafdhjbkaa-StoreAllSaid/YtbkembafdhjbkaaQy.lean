import Derived.Test.YtbkembafdhjbkaaQw
import Derived.Test.YtbkembafdhjbkaaQu
set_option linter.unusedVariables false
namespace Go.Proofs.Ytbkembafdhjbkaa
open Go.RowKit
set_option maxHeartbeats 2000000 in
set_option maxRecDepth 100000 in
theorem storeAll_far (A0 : Option Addr) (len0 c0 : Nat) (A1 : Option Addr) (len1 c1 : Nat) (now kind key fam : Int) (r : Rc) (w : World) (hlen0 : 100 < len0) :
    Calls Try.prog 5 #[.slice A0 len0 c0, .slice A1 len1 c1, .int .i64 now, .int .i64 kind, .int .i64 key, .agg r.arr, .int .i64 fam] w fun e w' => e = .returned (.bool true) ∧ Below w.heap.size w w' := by
  have hb := (Below.refl w.heap.size w).alloc (Nat.le_refl _) (.cells r.arr 32)
  have cfew := Lib.hid (fun W => few19_walk A0 len0 c0 false (by simpa using hlen0) W)
  clear hlen0
  go_enter Try.func5, Try.ntmps5
  go_wp2_with fail
  refine (known19_walk _).mono ?_
  rintro _ w1 ⟨rfl, hbn⟩
  replace hb := below_next hb hbn
  clear hbn
  go_wp2_with fail
  refine (cfew.out _).mono ?_
  rintro _ w1 ⟨rfl, rfl⟩
  go_wp2_with fail
  go_ret
  exact ⟨rfl, hb⟩
end Go.Proofs.Ytbkembafdhjbkaa
