import Derived.Test.YtekpdkjkkglcjaaKit
import Derived.Test.YtekpdkjkkglcjaaMs
import Derived.Lib.BufferWrite
set_option linter.unusedVariables false
set_option linter.unusedSimpArgs false
set_option maxRecDepth 20000
namespace Go.Proofs.Ytekpdkjkkglcjaa
open Go.RowKit
theorem info5 : (Try.prog.info? 5).map (fun i => (i.zero, i.size, i.bytes)) = some (some (.int .u8 0), 1, 1) := by kernel_rfl

set_option maxHeartbeats 400000 in
theorem four_walk (A : Option Addr) (m c : Nat) (l : List UInt8) (w : World) (hr : Reads w w.heap.size 1 A m (Lib.byteCells l)) (hm : m ≤ 3) :
    Calls Try.prog 54 #[.slice A m c] w fun e w' => e = .returned (.agg #[.int .u8 (B64.sxt l 0 : Nat), .int .u8 (B64.sxt l 1 : Nat), .int .u8 (B64.sxt l 2 : Nat), .int .u8 (B64.sxt l 3 : Nat)]) ∧ Below w.heap.size w w' := by
  have hl := hr.get
  go_enter Try.func54, Try.ntmps54
  go_wp2_with (with_reducible refine wpList_copy_splice rfl (.tmp 4) (.tmp 5) 49 49 rfl 5 Try.underlying49 (by kernel_rfl) _ _ _ _ _ _ rfl rfl (w.heap.size+1) 0 [.int .u8 0, .int .u8 0, .int .u8 0] 80 ?heap (Lib.byteCells l) ?hn ?hpos ?hfit ?h1 (w.heap.size+1) (w.alloc (.cells #[.int .u8 0, .int .u8 0, .int .u8 0, .int .u8 0] 68)) ?hb ?hB ?_)
  case heap => exact (by simp : (w.alloc (.cells #[.int .u8 0, .int .u8 0, .int .u8 0, .int .u8 0] 68)).heap.size = w.heap.size + 1) ▸ heap_alloc_new _ _
  case hn => rw [hr.1]; simp [Nat.min_def]; omega
  case hpos =>
    intro h0
    obtain ⟨ad, rfl, hb, hc⟩ := ((hr.alloc (Nat.le_refl _) _).alloc (by simp) _).2 (by have := hr.1; omega)
    exact ⟨ad, rfl, hc⟩
  case hfit => have := hr.1; simp at this ⊢; omega
  case h1 => exact Lib.byteCells_one l
  case hb => exact (Below.refl _ _).alloc (by simp) _
  case hB => exact Nat.le_refl _
  intro w1 hw1 hb1
  have key : Blk w1 (w.heap.size + 1) 80 #[.int .u8 ((l.getD 0 0).toNat : Int), .int .u8 ((l.getD 1 0).toNat : Int), .int .u8 ((l.getD 2 0).toNat : Int)] := by
    have h := hw1.out
    match l, hl with
    | [], _ => exact h
    | [a], _ => exact h
    | [a, b], _ => exact h
    | [a, b, d], _ => exact h
    | a :: b :: d :: e :: r, hl => simp at hl; omega
  have c0 := key.cell 0
  have c1 := key.cell 1
  have c2 := key.cell 2
  have r0 : Blk w1 w.heap.size 68 #[.int .u8 0, .int .u8 0, .int .u8 0, .int .u8 0] := (hb1.block _ (by simp)).trans (heap_alloc_new w _)
  have d0 := r0.cell 0
  have d1 := r0.cell 1
  have d2 := r0.cell 2
  have d3 := r0.cell 3
  have f0 := r0.frozen 0
  have f1 := r0.frozen 1
  have f2 := r0.frozen 2
  have f3 := r0.frozen 3
  clear hw1
  have hB0 : Below w.heap.size w w1 := ((Below.refl _ _).alloc (Nat.le_refl _) _).trans (hb1.mono (by omega))
  clear hb1 key r0 hr
  simp only [List.getElem?_toArray, List.getElem?_cons_zero, List.getElem?_cons_succ] at c0 c1 c2 d0 d1 d2 d3
  go_wp2
  simp only [← List.getD_eq_getElem?_getD, B64.sxt0, B64.sxt1, B64.sxt2, B64.sxt3]
  refine bodyPost_ret (v := .agg #[.int .u8 (B64.sxt l 0 : Nat), .int .u8 (B64.sxt l 1 : Nat), .int .u8 (B64.sxt l 2 : Nat), .int .u8 (B64.sxt l 3 : Nat)]) (by simp [results, Try.results54, go_sem, d0, d1, d2, d3]) rfl ⟨rfl, ?_⟩
  exact (((hB0.setCell (by simp) _).setCell (by simp) _).setCell (by simp) _).setCell (by simp) _
end Go.Proofs.Ytekpdkjkkglcjaa
