import Derived.Test.YtbkembafdhjbkaaQf
import Derived.Test.YtbkembafdhjbkaaLt
import Derived.Deep.RegionHeld3
set_option linter.unusedVariables false
namespace Go.Proofs.Ytbkembafdhjbkaa
open Go.RowKit
theorem tl_inj {a b : ByteArray} (h : a.toList = b.toList) : a = b := by
  rw [ByteArray.toList_eq, ByteArray.toList_eq] at h
  exact str_eq h
theorem rc_ext {r s : Rc} (h1 : r.kind = s.kind) (h2 : r.key = s.key) (h3 : r.till = s.till) (h4 : r.used = s.used) (h5 : r.client = s.client) (h6 : r.user = s.user) (h7 : r.sess = s.sess) (h8 : r.fam = s.fam)
    (g1 : r.s1 = s.s1) (g2 : r.s2 = s.s2) (g3 : r.s3 = s.s3) (g4 : r.s4 = s.s4) (g5 : r.s5 = s.s5) (g6 : r.s6 = s.s6) (g7 : r.s7 = s.s7) : r = s := by
  cases r
  cases s
  simp only at h1 h2 h3 h4 h5 h6 h7 h8 g1 g2 g3 g4 g5 g6 g7
  subst h1 h2 h3 h4 h5 h6 h7 h8 g1 g2 g3 g4 g5 g6 g7
  rfl
set_option maxRecDepth 100000 in
set_option maxHeartbeats 4000000 in
theorem rec_eq (r s : Rc) (W : World) : (Op.equalIn 10000 32 (.agg r.arr) (.agg s.arr)).run Try.prog W = .ok (decide (r = s)) W := by
  have hs1 : Try.prog.stoodInHeld 32 = false := by kernel_rfl
  have hs2 : Try.prog.stoodInHeld 30 = false := by kernel_rfl
  have hf1 : Try.prog.underlying 32 = some (.struct (Try.prog.fieldsOf 32)) := by kernel_rfl
  have hf2 : Try.prog.underlying 30 = some (.struct (Try.prog.fieldsOf 30)) := by kernel_rfl
  rw [run_equalIn_struct W 9999 _ _ _ hf1 hs1]
  rw [show (Try.prog.fieldsOf 32).toList = _ from (by unfold Program.fieldsOf; rw [Try.underlying32])]
  simp [go_sem, Rc.arr, Rc.cells, Try.underlying3, Try.underlying4, Try.underlying9, Try.underlying30, hs2]
  by_cases h : r = s
  · subst h
    simp
  · rw [decide_eq_false h]
    by_cases h0 : r.kind = s.kind
    case neg => rw [if_neg h0]
    rw [if_pos h0]
    by_cases h1 : r.key = s.key
    case neg => rw [if_neg h1]
    rw [if_pos h1]
    by_cases h2 : r.till = s.till
    case neg => rw [if_neg h2]
    rw [if_pos h2]
    by_cases h3 : r.used = s.used
    case neg => rw [if_neg h3]
    rw [if_pos h3]
    by_cases h4 : r.client = s.client
    case neg => rw [if_neg h4]
    rw [if_pos h4]
    by_cases h5 : r.user = s.user
    case neg => rw [if_neg h5]
    rw [if_pos h5]
    by_cases h6 : r.sess = s.sess
    case neg => rw [if_neg h6]
    rw [if_pos h6]
    by_cases h7 : r.fam = s.fam
    case neg => rw [if_neg h7]
    rw [if_pos h7]
    by_cases g0 : r.s1.toList = s.s1.toList
    case neg => rw [if_neg g0]
    rw [if_pos g0]
    by_cases g1 : r.s2.toList = s.s2.toList
    case neg => rw [if_neg g1]
    rw [if_pos g1]
    by_cases g2 : r.s3.toList = s.s3.toList
    case neg => rw [if_neg g2]
    rw [if_pos g2]
    by_cases g3 : r.s4.toList = s.s4.toList
    case neg => rw [if_neg g3]
    rw [if_pos g3]
    by_cases g4 : r.s5.toList = s.s5.toList
    case neg => rw [if_neg g4]
    rw [if_pos g4]
    by_cases g5 : r.s6.toList = s.s6.toList
    case neg => rw [if_neg g5]
    rw [if_pos g5]
    by_cases g6 : r.s7.toList = s.s7.toList
    case neg => rw [if_neg g6]
    rw [if_pos g6]
    exact absurd (rc_ext h0 h1 h2 h3 h4 h5 h6 h7 (tl_inj g0) (tl_inj g1) (tl_inj g2) (tl_inj g3) (tl_inj g4) (tl_inj g5) (tl_inj g6)) h
theorem neq_rec (r s : Rc) (W : World) : (binOp .neq 32 (.agg r.arr) (.agg s.arr)).run Try.prog W = .ok (.bool (!decide (r = s))) W := by
  rw [run_neq_struct, rec_eq]
  rfl
theorem eql_rec (r s : Rc) (W : World) : (binOp .eql 32 (.agg r.arr) (.agg s.arr)).run Try.prog W = .ok (.bool (decide (r = s))) W := by
  rw [run_eql_struct, rec_eq]
  rfl
theorem yieldsIf_load_rec {ops : Array Oper} {S : World → Prop} {op : Oper} {a : Act} (hw : Region.wanted op (yielded ops a.tmps) = true) (x : Operand) (ho : op.op = .load 32 x)
    (ad : Addr) (hx : a.eval x = .pointer (some ad)) (r : Rc) (hS : ∀ w, S w → ∀ j u, r.cells[j]? = some u → w.cell? (ad.add j) = some u) : YieldsIf Try.prog ops S op (.agg r.arr) a :=
  .inl ⟨hw, fun w hw' => by
    unfold execOp
    simp only [ho, hx, Instr.loadAt, Instr.sureAddr, Sem.run_bind, Sem.run_pure, Result.andThen_ok, run_loadVar_at w ad 32 r.cells _ (hS w hw') Try.underlying32 rfl rec_size]
    rfl⟩
set_option maxHeartbeats 2000000 in
theorem same_walk (rs ss : List Rc) (A B : Option Addr) (c d : Nat) (w : World) (hr : RecsAt w A c rs) (hs : RecsAt w B d ss) :
    Calls Try.prog 14 #[.slice A rs.length c, .slice B ss.length d] w fun e w' => e = .returned (.bool (decide (rs = ss))) ∧ ∃ n, w' = w.drewN n := by
  by_cases hl : rs.length = ss.length
  · have hne : ((rs.length : Int) == (ss.length : Int)) = true := by rw [hl]; simp
    have HL := Lib.hid hl
    clear hl
    have hm := hr.2.1
    go_enter Try.func14, Try.ntmps14
    go_wp2_with fail
    go_loopw [5] (fun nv wr => ∃ k : Nat, k ≤ rs.length ∧ nv = .int .i64 k ∧ Hid (rs.take k = ss.take k) ∧ ∃ n, wr = w.drewN n) (fun nv _ => rs.length - (intOf nv).toNat)
    case atStart => exact ⟨0, by omega, rfl, rfl, 0, rfl⟩
    case round =>
      obtain ⟨k, hk, rfl, heq, n, rfl⟩ := hrel
      by_cases hlt : k < rs.length
      · obtain ⟨ad, rfl⟩ : ∃ ad, A = some ad := by obtain ⟨ad, h, _⟩ := hr.2.2.2 (by omega); exact ⟨ad, h⟩
        obtain ⟨bd, rfl⟩ : ∃ ad, B = some ad := by obtain ⟨ad, h, _⟩ := hs.2.2.2 (by rw [← HL.out]; omega); exact ⟨ad, h⟩
        obtain ⟨r, hrk⟩ : ∃ r, rs[k]? = some r := ⟨rs[k], List.getElem?_eq_getElem hlt⟩
        obtain ⟨s, hsk⟩ : ∃ r, ss[k]? = some r := ⟨ss[k], List.getElem?_eq_getElem (by rw [← HL.out]; exact hlt)⟩
        have hlt2 : k < ss.length := by rw [← HL.out]; exact hlt
        have hnq := neq_rec r s
        have hqg : Try.prog.eqGuardType Try.prog.depth 32 = false := by kernel_rfl
        have hS0 : (∀ j u, r.cells[j]? = some u → ((w.drewN n).drew).cell? ((ad.add (k * 15)).add j) = some u) ∧ (∀ j u, s.cells[j]? = some u → ((w.drewN n).drew).cell? ((bd.add (k * 15)).add j) = some u) := ⟨rec_at hr.2.2 hrk, rec_at hs.2.2 hsk⟩
        go_wp2_with fail
        refine wp_region_held_drew (S := fun W => (∀ j u, r.cells[j]? = some u → W.cell? ((ad.add (k * 15)).add j) = some u) ∧ (∀ j u, s.cells[j]? = some u → W.cell? ((bd.add (k * 15)).add j) = some u)) (by kernel_rfl) hS0 (fun hHeld => ?_)
        first | (refine wpAnyH_take (i := 0) (v := _) rfl (by kernel_rfl) (by kernel_rfl) (by kernel_rfl) (fun _ _ _ h => h) (Or.inr ⟨?_, rfl⟩) (by assumption) ?_; rfl) | (refine wpAnyH_take (i := 0) (v := ?_) rfl (by kernel_rfl) (by kernel_rfl) (by kernel_rfl) (fun _ _ _ h => h) (Or.inl ⟨?_, ?_⟩) (by assumption) ?_; rotate_left; rfl; focus (intro w hSw; (try dsimp only at hSw); go_simp; all_goals (with_reducible rfl)))
        (try simp only [List.getElem_toArray, List.getElem_cons_zero, List.getElem_cons_succ, Act.put, List.setIfInBounds_toArray, List.set_cons_zero, List.set_cons_succ])
        first | (refine wpAnyH_take (i := 1) (v := _) rfl (by kernel_rfl) (by kernel_rfl) (by kernel_rfl) (fun _ _ _ h => h) (Or.inr ⟨?_, rfl⟩) (by assumption) ?_; rfl) | (refine wpAnyH_take (i := 1) (v := ?_) rfl (by kernel_rfl) (by kernel_rfl) (by kernel_rfl) (fun _ _ _ h => h) (Or.inl ⟨?_, ?_⟩) (by assumption) ?_; rotate_left; rfl; focus (intro w hSw; (try dsimp only at hSw); go_simp; all_goals (with_reducible rfl)))
        (try simp only [List.getElem_toArray, List.getElem_cons_zero, List.getElem_cons_succ, Act.put, List.setIfInBounds_toArray, List.set_cons_zero, List.set_cons_succ])
        first | (refine wpAnyH_take (i := 2) (v := _) rfl (by kernel_rfl) (by kernel_rfl) (by kernel_rfl) (fun _ _ _ h => h) (Or.inr ⟨?_, rfl⟩) (by assumption) ?_; rfl) | (refine wpAnyH_take (i := 2) (v := ?_) rfl (by kernel_rfl) (by kernel_rfl) (by kernel_rfl) (fun _ _ _ h => h) (Or.inl ⟨?_, ?_⟩) (by assumption) ?_; rotate_left; rfl; focus (intro w hSw; (try dsimp only at hSw); go_simp; all_goals (with_reducible rfl)))
        (try simp only [List.getElem_toArray, List.getElem_cons_zero, List.getElem_cons_succ, Act.put, List.setIfInBounds_toArray, List.set_cons_zero, List.set_cons_succ])
        refine wpAnyH_take (i := 3) (v := _) rfl (by kernel_rfl) (by kernel_rfl) (by kernel_rfl) (fun _ _ _ h => h) (yieldsIf_load_rec (by rfl) _ rfl (ad.add (k * 15)) rfl r (fun w h => h.1)) (by assumption) ?_
        (try simp only [List.getElem_toArray, List.getElem_cons_zero, List.getElem_cons_succ, Act.put, List.setIfInBounds_toArray, List.set_cons_zero, List.set_cons_succ])
        first | (refine wpAnyH_take (i := 4) (v := _) rfl (by kernel_rfl) (by kernel_rfl) (by kernel_rfl) (fun _ _ _ h => h) (Or.inr ⟨?_, rfl⟩) (by assumption) ?_; rfl) | (refine wpAnyH_take (i := 4) (v := ?_) rfl (by kernel_rfl) (by kernel_rfl) (by kernel_rfl) (fun _ _ _ h => h) (Or.inl ⟨?_, ?_⟩) (by assumption) ?_; rotate_left; rfl; focus (intro w hSw; (try dsimp only at hSw); go_simp; all_goals (with_reducible rfl)))
        (try simp only [List.getElem_toArray, List.getElem_cons_zero, List.getElem_cons_succ, Act.put, List.setIfInBounds_toArray, List.set_cons_zero, List.set_cons_succ])
        first | (refine wpAnyH_take (i := 5) (v := _) rfl (by kernel_rfl) (by kernel_rfl) (by kernel_rfl) (fun _ _ _ h => h) (Or.inr ⟨?_, rfl⟩) (by assumption) ?_; rfl) | (refine wpAnyH_take (i := 5) (v := ?_) rfl (by kernel_rfl) (by kernel_rfl) (by kernel_rfl) (fun _ _ _ h => h) (Or.inl ⟨?_, ?_⟩) (by assumption) ?_; rotate_left; rfl; focus (intro w hSw; (try dsimp only at hSw); go_simp; all_goals (with_reducible rfl)))
        (try simp only [List.getElem_toArray, List.getElem_cons_zero, List.getElem_cons_succ, Act.put, List.setIfInBounds_toArray, List.set_cons_zero, List.set_cons_succ])
        first | (refine wpAnyH_take (i := 6) (v := _) rfl (by kernel_rfl) (by kernel_rfl) (by kernel_rfl) (fun _ _ _ h => h) (Or.inr ⟨?_, rfl⟩) (by assumption) ?_; rfl) | (refine wpAnyH_take (i := 6) (v := ?_) rfl (by kernel_rfl) (by kernel_rfl) (by kernel_rfl) (fun _ _ _ h => h) (Or.inl ⟨?_, ?_⟩) (by assumption) ?_; rotate_left; rfl; focus (intro w hSw; (try dsimp only at hSw); go_simp; all_goals (with_reducible rfl)))
        (try simp only [List.getElem_toArray, List.getElem_cons_zero, List.getElem_cons_succ, Act.put, List.setIfInBounds_toArray, List.set_cons_zero, List.set_cons_succ])
        refine wpAnyH_take (i := 7) (v := _) rfl (by kernel_rfl) (by kernel_rfl) (by kernel_rfl) (fun _ _ _ h => h) (yieldsIf_load_rec (by rfl) _ rfl (bd.add (k * 15)) rfl s (fun w h => h.2)) (by assumption) ?_
        (try simp only [List.getElem_toArray, List.getElem_cons_zero, List.getElem_cons_succ, Act.put, List.setIfInBounds_toArray, List.set_cons_zero, List.set_cons_succ])
        first | (refine wpAnyH_take (i := 8) (v := _) rfl (by kernel_rfl) (by kernel_rfl) (by kernel_rfl) (fun _ _ _ h => h) (Or.inr ⟨?_, rfl⟩) (by assumption) ?_; rfl) | (refine wpAnyH_take (i := 8) (v := ?_) rfl (by kernel_rfl) (by kernel_rfl) (by kernel_rfl) (fun _ _ _ h => h) (Or.inl ⟨?_, ?_⟩) (by assumption) ?_; rotate_left; rfl; focus (intro w hSw; (try dsimp only at hSw); go_simp; all_goals (with_reducible rfl)))
        (try simp only [List.getElem_toArray, List.getElem_cons_zero, List.getElem_cons_succ, Act.put, List.setIfInBounds_toArray, List.set_cons_zero, List.set_cons_succ])
        refine wpAnyH_done (by kernel_rfl) ?_ _
        by_cases hrs : r = s
        · rw [show decide (r = s) = true from decide_eq_true hrs]
          have HN : Hid (rs.take (k + 1) = ss.take (k + 1)) := by
            show _ = _
            rw [List.take_add_one, List.take_add_one, heq.out, hrk, hsk, hrs]
          clear hnq hHeld hS0 hrs
          go_wp2_with fail
          exact ⟨⟨k + 1, by omega, by go_num, HN, n + 1, rfl⟩, by simp [intOf]; omega⟩
        · rw [show decide (r = s) = false from decide_eq_false hrs]
          have hv : Hid (decide (rs = ss) = false) := by
            show _ = _
            apply decide_eq_false
            intro e
            rw [e, hsk] at hrk
            injection hrk with e2
            exact hrs e2.symm
          clear hnq hHeld hS0 hrs
          go_wp2_with fail
          go_ret
          exact ⟨by rw [hv.out]; rfl, n + 1, rfl⟩
      · obtain rfl : k = rs.length := by omega
        have hv : Hid (decide (rs = ss) = true) := by
          show _ = _
          have := heq.out
          rw [List.take_length, HL.out, List.take_length] at this
          exact decide_eq_true this
        go_wp2_with fail
        go_ret
        exact ⟨by rw [hv.out]; rfl, n, rfl⟩
  · have hne : ((rs.length : Int) == (ss.length : Int)) = false := by rw [beq_eq_false_iff_ne]; omega
    have hv : Hid (decide (rs = ss) = false) := by
      show _ = _
      apply decide_eq_false
      intro e
      exact hl (by rw [e])
    clear hl
    go_enter Try.func14, Try.ntmps14
    go_wp2_with fail
    go_ret
    exact ⟨by rw [hv.out]; rfl, 0, rfl⟩
end Go.Proofs.Ytbkembafdhjbkaa
