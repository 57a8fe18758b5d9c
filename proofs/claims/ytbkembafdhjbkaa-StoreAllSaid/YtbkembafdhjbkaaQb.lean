import Derived.Test.YtbkembafdhjbkaaQa
import Derived.Deep.Onto
import Derived.Lib.MinMax
set_option linter.unusedVariables false
namespace Go.Proofs.Ytbkembafdhjbkaa
open Go.RowKit
def mostI (k : Int) : Int := if k = 1 then 6 else if k = 2 then 6 else if k = 3 then 6 else if k = 4 then 6 else if k = 5 then 12 else if k = 6 then 12 else 0
def lifeI (k : Int) : Int := if k = 1 then 60 else if k = 2 then 900 else if k = 3 then 120 else if k = 4 then 40 else if k = 5 then 300 else if k = 6 then 600 else 0
set_option maxHeartbeats 1000000 in
theorem bounds_walk (k : Int) (w : World) : Calls Try.prog 34 #[.int .i64 k] w fun e w' => e = .returned (.agg #[.int .i64 (mostI k), .int .i64 (lifeI k)]) ∧ Below w.heap.size w w' := by
  have hb := Below.refl w.heap.size w
  by_cases h : k = 1 ∨ k = 2 ∨ k = 3 ∨ k = 4 ∨ k = 5 ∨ k = 6
  · rcases h with rfl | rfl | rfl | rfl | rfl | rfl
    all_goals
      go_enter Try.func34, Try.ntmps34
      go_wp2_with fail
      refine bodyPost_ret (results_cell_row Try.results34 _ _ w.heap.size _ _ _ _ rfl (Blk.new _ _ _) Try.underlying56 rfl (by kernel_rfl)) rfl ⟨?_, hb.alloc hb.size _⟩
      rfl
  · have e1 : (k == 1) = false := by rw [beq_eq_false_iff_ne]; omega
    have e2 : (k == 2) = false := by rw [beq_eq_false_iff_ne]; omega
    have e3 : (k == 3) = false := by rw [beq_eq_false_iff_ne]; omega
    have e4 : (k == 4) = false := by rw [beq_eq_false_iff_ne]; omega
    have e5 : (k == 5) = false := by rw [beq_eq_false_iff_ne]; omega
    have e6 : (k == 6) = false := by rw [beq_eq_false_iff_ne]; omega
    have hm : Hid (mostI k = 0) := by show _ = _; unfold mostI; repeat (rw [if_neg (by omega)])
    have hl : Hid (lifeI k = 0) := by show _ = _; unfold lifeI; repeat (rw [if_neg (by omega)])
    clear h
    go_enter Try.func34, Try.ntmps34
    go_wp2_with fail
    refine bodyPost_ret (results_cell_row Try.results34 _ _ w.heap.size _ _ _ _ rfl (Blk.new _ _ _) Try.underlying56 rfl (by kernel_rfl)) rfl ⟨?_, hb.alloc hb.size _⟩
    rw [hm.out, hl.out]
theorem most_walk (k : Int) (w : World) : Calls Try.prog 9 #[.int .i64 k] w fun e w' => e = .returned (.int .i64 (mostI k)) ∧ Below w.heap.size w w' := by
  have hfd : ∀ (a b : Int) (W : World), (Instr.field 56 (.agg #[.int .i64 a, .int .i64 b]) 0).run Try.prog W = .ok (.int .i64 a) W := fun _ _ _ => rfl
  have hb := Below.refl w.heap.size w
  go_enter Try.func9, Try.ntmps9
  go_wp2_with fail
  refine (bounds_walk _ _).mono ?_
  rintro _ w1 ⟨rfl, hbn⟩
  replace hb := below_next hb hbn
  clear hbn
  go_wp2_with fail
  go_ret
  exact ⟨rfl, hb⟩
theorem life_walk (k : Int) (w : World) : Calls Try.prog 29 #[.int .i64 k] w fun e w' => e = .returned (.int .i64 (lifeI k)) ∧ Below w.heap.size w w' := by
  have hfd : ∀ (a b : Int) (W : World), (Instr.field 56 (.agg #[.int .i64 a, .int .i64 b]) 1).run Try.prog W = .ok (.int .i64 b) W := fun _ _ _ => rfl
  have hb := Below.refl w.heap.size w
  go_enter Try.func29, Try.ntmps29
  go_wp2_with fail
  refine (bounds_walk _ _).mono ?_
  rintro _ w1 ⟨rfl, hbn⟩
  replace hb := below_next hb hbn
  clear hbn
  go_wp2_with fail
  go_ret
  exact ⟨rfl, hb⟩
/-- an own row of records comes back -/
def OwnRec (rs : List Rc) (w : World) (e : Ending) (w' : World) : Prop := ∃ v, e = .returned v ∧ w'.ownsRow w.heap.size 32 15 v rs.length (recCells rs) ∧ Below w.heap.size w w'
/-- a slice reads as these records -/
def RecsAt (w : World) (A : Option Addr) (c : Nat) (rs : List Rc) : Prop := rs.length ≤ c ∧ rs.length ≤ 1000000 ∧ Reads w w.heap.size 15 A rs.length (recCells rs)
theorem RecsAt.below {w w' : World} {A : Option Addr} {c : Nat} {rs : List Rc} (h : RecsAt w A c rs) (hb : Below w.heap.size w w') : RecsAt w' A c rs := ⟨h.1, h.2.1, (h.2.2.below hb).more hb.size⟩
theorem RecsAt.own {w : World} {base : Nat} {T : TypeId} {v : Value} {rs : List Rc} (h : w.ownsRow base T 15 v rs.length (recCells rs)) (hm : rs.length ≤ 1000000) : ∃ A c, v = .slice A rs.length c ∧ RecsAt w A c rs := by
  obtain ⟨A, c, rfl, hc, hr⟩ := own_reads h (Nat.le_refl _)
  exact ⟨A, c, rfl, hc, hm, hr⟩
def liveL (now : Int) (rs : List Rc) : List Rc := rs.filter fun r => decide (now < r.till)
def revokeL (fam : Int) (rs : List Rc) : List Rc := rs.filter fun r => (r.kind != 5 && r.kind != 6) || r.fam != fam
theorem OwnRec.base {rs : List Rc} {w w1 : World} {e : Ending} {w' : World} (hb : Below w.heap.size w w1) (h : OwnRec rs w1 e w') : OwnRec rs w e w' := by
  obtain ⟨v, h1, h2, h3⟩ := h
  exact ⟨v, h1, h2.mono hb.size, below_next hb h3⟩
set_option maxHeartbeats 1000000 in
theorem live_walk (rs : List Rc) (A : Option Addr) (c : Nat) (now : Int) (w : World) (hr : RecsAt w A c rs) :
    Calls Try.prog 24 #[.slice A rs.length c, .int .i64 now] w (OwnRec (liveL now rs) w) := by
  have hmf : ∀ (fn : Fn) (first cap : Array Value) (w : World), (Instr.makeFunc fn first cap).run Try.prog w = .ok (.func fn first cap) w := fun _ _ _ _ => rfl
  have hbx := (Below.refl w.heap.size w).alloc (Nat.le_refl _) (.cells #[.int .i64 now] 3)
  have hr2 := hr.below hbx
  have ck := Lib.hid (keep_walk _ _ _ (w.alloc (.cells #[.int .i64 now] 3)) (live1_walk w.heap.size now _ ((Blk.new w 3 #[.int .i64 now]).cell 0)) rs A c hr2.2.2 hr2.1 hr2.2.1)
  go_enter Try.func24, Try.ntmps24
  go_wp2_with fail
  refine ck.out.mono ?_
  rintro _ w1 ⟨v, rfl, hown, hb⟩
  go_wp2_with fail
  go_ret
  exact ⟨v, rfl, hown.mono hbx.size, below_next hbx hb⟩
set_option maxHeartbeats 1000000 in
theorem revoke_walk (rs : List Rc) (A : Option Addr) (c : Nat) (fam : Int) (w : World) (hr : RecsAt w A c rs) :
    Calls Try.prog 13 #[.slice A rs.length c, .int .i64 fam] w (OwnRec (revokeL fam rs) w) := by
  have hmf : ∀ (fn : Fn) (first cap : Array Value) (w : World), (Instr.makeFunc fn first cap).run Try.prog w = .ok (.func fn first cap) w := fun _ _ _ _ => rfl
  have hbx := (Below.refl w.heap.size w).alloc (Nat.le_refl _) (.cells #[.int .i64 fam] 3)
  have hr2 := hr.below hbx
  have ck := Lib.hid (keep_walk _ _ _ (w.alloc (.cells #[.int .i64 fam] 3)) (revoke1_walk w.heap.size fam _ ((Blk.new w 3 #[.int .i64 fam]).cell 0)) rs A c hr2.2.2 hr2.1 hr2.2.1)
  go_enter Try.func13, Try.ntmps13
  go_wp2_with fail
  refine ck.out.mono ?_
  rintro _ w1 ⟨v, rfl, hown, hb⟩
  go_wp2_with fail
  go_ret
  exact ⟨v, rfl, hown.mono hbx.size, below_next hbx hb⟩
end Go.Proofs.Ytbkembafdhjbkaa
