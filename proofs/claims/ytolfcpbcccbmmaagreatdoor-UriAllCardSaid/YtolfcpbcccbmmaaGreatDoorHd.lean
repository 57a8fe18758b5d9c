/- Two rows of fields compared: countersignref10.Same. No condition of its own. -/
import Derived.Test.YtolfcpbcccbmmaaGreatDoorHc
import Derived.Deep.RegionHeld3
set_option linter.unusedVariables false
set_option linter.unusedSimpArgs false
set_option maxRecDepth 20000
namespace Go.Proofs.YtolfcpbcccbmmaaGreatDoor
open Go.RowKit
theorem tl_injL {a b : List UInt8} (h : (⟨a.toArray⟩ : ByteArray).toList = (⟨b.toArray⟩ : ByteArray).toList) : a = b := by
  rw [ByteArray.toList_eq, ByteArray.toList_eq] at h
  simpa using h
theorem fl_ext {r s : Fl} (h1 : r.n = s.n) (h2 : r.v = s.v) : r = s := by
  cases r; cases s; simp only at h1 h2; subst h1 h2; rfl
set_option maxRecDepth 100000 in
set_option maxHeartbeats 4000000 in
theorem fl_eq (r s : Fl) (W : World) : (Op.equalIn 10000 57 (.agg r.arr) (.agg s.arr)).run Tryz.prog W = .ok (decide (r = s)) W := by
  have hs1 : Tryz.prog.stoodInHeld 57 = false := by kernel_rfl
  have hf1 : Tryz.prog.underlying 57 = some (.struct (Tryz.prog.fieldsOf 57)) := by kernel_rfl
  rw [run_equalIn_struct W 9999 _ _ _ hf1 hs1]
  rw [show (Tryz.prog.fieldsOf 57).toList = _ from (by unfold Program.fieldsOf; rw [Tryz.underlying57])]
  have k1 := tl_injL (a := r.n) (b := s.n)
  have k2 := tl_injL (a := r.v) (b := s.v)
  generalize hx1 : (⟨r.n.toArray⟩ : ByteArray).toList = x1 at k1
  generalize hx2 : (⟨r.v.toArray⟩ : ByteArray).toList = x2 at k2
  generalize hy1 : (⟨s.n.toArray⟩ : ByteArray).toList = y1 at k1
  generalize hy2 : (⟨s.v.toArray⟩ : ByteArray).toList = y2 at k2
  simp [go_sem, Fl.arr, Fl.cells, strV, Tryz.underlying9, hx1, hx2, hy1, hy2]
  by_cases h : r = s
  · subst h
    subst hx1 hx2
    simp [hy1.symm, hy2.symm]
  · rw [decide_eq_false h]
    by_cases g0 : x1 = y1
    case neg => simp [g0]
    by_cases g1 : x2 = y2
    case neg => simp [g1]
    exact absurd (fl_ext (k1 g0) (k2 g1)) h
theorem neq_fl (r s : Fl) (W : World) : (binOp .neq 57 (.agg r.arr) (.agg s.arr)).run Tryz.prog W = .ok (.bool (!decide (r = s))) W := by
  rw [run_neq_struct, fl_eq]
  rfl
theorem eql_fl (r s : Fl) (W : World) : (binOp .eql 57 (.agg r.arr) (.agg s.arr)).run Tryz.prog W = .ok (.bool (decide (r = s))) W := by
  rw [run_eql_struct, fl_eq]
  rfl
theorem yieldsIf_load_fl {ops : Array Oper} {S : World → Prop} {op : Oper} {a : Act} (hw : Region.wanted op (yielded ops a.tmps) = true) (x : Operand) (ho : op.op = .load 57 x)
    (ad : Addr) (hx : a.eval x = .pointer (some ad)) (r : Fl) (hS : ∀ w, S w → ∀ j u, r.cells[j]? = some u → w.cell? (ad.add j) = some u) : YieldsIf Tryz.prog ops S op (.agg r.arr) a :=
  .inl ⟨hw, fun w hw' => by
    unfold execOp
    simp only [ho, hx, Instr.loadAt, Instr.sureAddr, Sem.run_bind, Sem.run_pure, Result.andThen_ok, run_loadVar_at w ad 57 r.cells _ (hS w hw') Tryz.underlying57 rfl fl_size]
    rfl⟩
set_option maxHeartbeats 2000000 in
theorem same_walk (fs ss : List Fl) (A B : Option Addr) (c d : Nat) (w : World) (hr : FsAt w A c fs) (hs : FsAt w B d ss) :
    Calls Tryz.prog 30 #[.slice A fs.length c, .slice B ss.length d] w fun e w' => e = .returned (.bool (decide (fs = ss))) ∧ ∃ n, w' = w.drewN n := by
  by_cases hl : fs.length = ss.length
  · have hne : ((fs.length : Int) == (ss.length : Int)) = true := by rw [hl]; simp
    have HL := Lib.hid hl
    clear hl
    have hm := hr.2.1
    go_enter Tryz.func30, Tryz.ntmps30
    go_wp2_with fail
    go_loopw [5] (fun nv wr => ∃ k : Nat, k ≤ fs.length ∧ nv = .int .i64 k ∧ Hid (fs.take k = ss.take k) ∧ ∃ n, wr = w.drewN n) (fun nv _ => fs.length - (intOf nv).toNat)
    case atStart => exact ⟨0, by omega, rfl, rfl, 0, rfl⟩
    case round =>
      obtain ⟨k, hk, rfl, heq, n, rfl⟩ := hrel
      by_cases hlt : k < fs.length
      · obtain ⟨ad, rfl⟩ : ∃ ad, A = some ad := by obtain ⟨ad, h, _⟩ := hr.2.2.2 (by omega); exact ⟨ad, h⟩
        obtain ⟨bd, rfl⟩ : ∃ ad, B = some ad := by obtain ⟨ad, h, _⟩ := hs.2.2.2 (by rw [← HL.out]; omega); exact ⟨ad, h⟩
        obtain ⟨r, hrk⟩ : ∃ r, fs[k]? = some r := ⟨fs[k], List.getElem?_eq_getElem hlt⟩
        obtain ⟨s, hsk⟩ : ∃ r, ss[k]? = some r := ⟨ss[k], List.getElem?_eq_getElem (by rw [← HL.out]; exact hlt)⟩
        have hlt2 : k < ss.length := by rw [← HL.out]; exact hlt
        have hnq := neq_fl r s
        have hqg : Tryz.prog.eqGuardType Tryz.prog.depth 57 = false := by kernel_rfl
        have hS0 : (∀ j u, r.cells[j]? = some u → ((w.drewN n).drew).cell? ((ad.add (k * 2)).add j) = some u) ∧ (∀ j u, s.cells[j]? = some u → ((w.drewN n).drew).cell? ((bd.add (k * 2)).add j) = some u) := ⟨fl_at hr.2.2 hrk, fl_at hs.2.2 hsk⟩
        go_wp2_with fail
        refine wp_region_held_drew (S := fun W => (∀ j u, r.cells[j]? = some u → W.cell? ((ad.add (k * 2)).add j) = some u) ∧ (∀ j u, s.cells[j]? = some u → W.cell? ((bd.add (k * 2)).add j) = some u)) (by kernel_rfl) hS0 (fun hHeld => ?_)
        first | (refine wpAnyH_take (i := 0) (v := _) rfl (by kernel_rfl) (by kernel_rfl) (by kernel_rfl) (fun _ _ _ h => h) (Or.inr ⟨?_, rfl⟩) (by assumption) ?_; rfl) | (refine wpAnyH_take (i := 0) (v := ?_) rfl (by kernel_rfl) (by kernel_rfl) (by kernel_rfl) (fun _ _ _ h => h) (Or.inl ⟨?_, ?_⟩) (by assumption) ?_; rotate_left; rfl; focus (intro w hSw; (try dsimp only at hSw); go_simp; all_goals (with_reducible rfl)))
        (try simp only [List.getElem_toArray, List.getElem_cons_zero, List.getElem_cons_succ, Act.put, List.setIfInBounds_toArray, List.set_cons_zero, List.set_cons_succ])
        first | (refine wpAnyH_take (i := 1) (v := _) rfl (by kernel_rfl) (by kernel_rfl) (by kernel_rfl) (fun _ _ _ h => h) (Or.inr ⟨?_, rfl⟩) (by assumption) ?_; rfl) | (refine wpAnyH_take (i := 1) (v := ?_) rfl (by kernel_rfl) (by kernel_rfl) (by kernel_rfl) (fun _ _ _ h => h) (Or.inl ⟨?_, ?_⟩) (by assumption) ?_; rotate_left; rfl; focus (intro w hSw; (try dsimp only at hSw); go_simp; all_goals (with_reducible rfl)))
        (try simp only [List.getElem_toArray, List.getElem_cons_zero, List.getElem_cons_succ, Act.put, List.setIfInBounds_toArray, List.set_cons_zero, List.set_cons_succ])
        first | (refine wpAnyH_take (i := 2) (v := _) rfl (by kernel_rfl) (by kernel_rfl) (by kernel_rfl) (fun _ _ _ h => h) (Or.inr ⟨?_, rfl⟩) (by assumption) ?_; rfl) | (refine wpAnyH_take (i := 2) (v := ?_) rfl (by kernel_rfl) (by kernel_rfl) (by kernel_rfl) (fun _ _ _ h => h) (Or.inl ⟨?_, ?_⟩) (by assumption) ?_; rotate_left; rfl; focus (intro w hSw; (try dsimp only at hSw); go_simp; all_goals (with_reducible rfl)))
        (try simp only [List.getElem_toArray, List.getElem_cons_zero, List.getElem_cons_succ, Act.put, List.setIfInBounds_toArray, List.set_cons_zero, List.set_cons_succ])
        refine wpAnyH_take (i := 3) (v := _) rfl (by kernel_rfl) (by kernel_rfl) (by kernel_rfl) (fun _ _ _ h => h) (yieldsIf_load_fl (by rfl) _ rfl (ad.add (k * 2)) rfl r (fun w h => h.1)) (by assumption) ?_
        (try simp only [List.getElem_toArray, List.getElem_cons_zero, List.getElem_cons_succ, Act.put, List.setIfInBounds_toArray, List.set_cons_zero, List.set_cons_succ])
        first | (refine wpAnyH_take (i := 4) (v := _) rfl (by kernel_rfl) (by kernel_rfl) (by kernel_rfl) (fun _ _ _ h => h) (Or.inr ⟨?_, rfl⟩) (by assumption) ?_; rfl) | (refine wpAnyH_take (i := 4) (v := ?_) rfl (by kernel_rfl) (by kernel_rfl) (by kernel_rfl) (fun _ _ _ h => h) (Or.inl ⟨?_, ?_⟩) (by assumption) ?_; rotate_left; rfl; focus (intro w hSw; (try dsimp only at hSw); go_simp; all_goals (with_reducible rfl)))
        (try simp only [List.getElem_toArray, List.getElem_cons_zero, List.getElem_cons_succ, Act.put, List.setIfInBounds_toArray, List.set_cons_zero, List.set_cons_succ])
        first | (refine wpAnyH_take (i := 5) (v := _) rfl (by kernel_rfl) (by kernel_rfl) (by kernel_rfl) (fun _ _ _ h => h) (Or.inr ⟨?_, rfl⟩) (by assumption) ?_; rfl) | (refine wpAnyH_take (i := 5) (v := ?_) rfl (by kernel_rfl) (by kernel_rfl) (by kernel_rfl) (fun _ _ _ h => h) (Or.inl ⟨?_, ?_⟩) (by assumption) ?_; rotate_left; rfl; focus (intro w hSw; (try dsimp only at hSw); go_simp; all_goals (with_reducible rfl)))
        (try simp only [List.getElem_toArray, List.getElem_cons_zero, List.getElem_cons_succ, Act.put, List.setIfInBounds_toArray, List.set_cons_zero, List.set_cons_succ])
        first | (refine wpAnyH_take (i := 6) (v := _) rfl (by kernel_rfl) (by kernel_rfl) (by kernel_rfl) (fun _ _ _ h => h) (Or.inr ⟨?_, rfl⟩) (by assumption) ?_; rfl) | (refine wpAnyH_take (i := 6) (v := ?_) rfl (by kernel_rfl) (by kernel_rfl) (by kernel_rfl) (fun _ _ _ h => h) (Or.inl ⟨?_, ?_⟩) (by assumption) ?_; rotate_left; rfl; focus (intro w hSw; (try dsimp only at hSw); go_simp; all_goals (with_reducible rfl)))
        (try simp only [List.getElem_toArray, List.getElem_cons_zero, List.getElem_cons_succ, Act.put, List.setIfInBounds_toArray, List.set_cons_zero, List.set_cons_succ])
        refine wpAnyH_take (i := 7) (v := _) rfl (by kernel_rfl) (by kernel_rfl) (by kernel_rfl) (fun _ _ _ h => h) (yieldsIf_load_fl (by rfl) _ rfl (bd.add (k * 2)) rfl s (fun w h => h.2)) (by assumption) ?_
        (try simp only [List.getElem_toArray, List.getElem_cons_zero, List.getElem_cons_succ, Act.put, List.setIfInBounds_toArray, List.set_cons_zero, List.set_cons_succ])
        first | (refine wpAnyH_take (i := 8) (v := _) rfl (by kernel_rfl) (by kernel_rfl) (by kernel_rfl) (fun _ _ _ h => h) (Or.inr ⟨?_, rfl⟩) (by assumption) ?_; rfl) | (refine wpAnyH_take (i := 8) (v := ?_) rfl (by kernel_rfl) (by kernel_rfl) (by kernel_rfl) (fun _ _ _ h => h) (Or.inl ⟨?_, ?_⟩) (by assumption) ?_; rotate_left; rfl; focus (intro w hSw; (try dsimp only at hSw); go_simp; all_goals (with_reducible rfl)))
        (try simp only [List.getElem_toArray, List.getElem_cons_zero, List.getElem_cons_succ, Act.put, List.setIfInBounds_toArray, List.set_cons_zero, List.set_cons_succ])
        refine wpAnyH_done (by kernel_rfl) ?_ _
        by_cases hrs : r = s
        · rw [show decide (r = s) = true from decide_eq_true hrs]
          have HN : Hid (fs.take (k + 1) = ss.take (k + 1)) := by
            show _ = _
            rw [List.take_add_one, List.take_add_one, heq.out, hrk, hsk, hrs]
          clear hnq hHeld hS0 hrs
          go_wp2_with fail
          exact ⟨⟨k + 1, by omega, by go_num, HN, n + 1, rfl⟩, by simp [intOf]; omega⟩
        · rw [show decide (r = s) = false from decide_eq_false hrs]
          have hv : Hid (decide (fs = ss) = false) := by
            show _ = _
            apply decide_eq_false
            intro e
            rw [e, hsk] at hrk
            injection hrk with e2
            exact hrs e2.symm
          clear hnq hHeld hS0 hrs
          go_wp2_with fail
          go_ret
          exact ⟨by rw [hv.out]; rfl, n + 1, rfl⟩
      · obtain rfl : k = fs.length := by omega
        have hv : Hid (decide (fs = ss) = true) := by
          show _ = _
          have := heq.out
          rw [List.take_length, HL.out, List.take_length] at this
          exact decide_eq_true this
        go_wp2_with fail
        go_ret
        exact ⟨by rw [hv.out]; rfl, n, rfl⟩
  · have hne : ((fs.length : Int) == (ss.length : Int)) = false := by rw [beq_eq_false_iff_ne]; omega
    have hv : Hid (decide (fs = ss) = false) := by
      show _ = _
      apply decide_eq_false
      intro e
      exact hl (by rw [e])
    clear hl
    go_enter Tryz.func30, Tryz.ntmps30
    go_wp2_with fail
    go_ret
    exact ⟨by rw [hv.out]; rfl, 0, rfl⟩
end Go.Proofs.YtolfcpbcccbmmaaGreatDoor
