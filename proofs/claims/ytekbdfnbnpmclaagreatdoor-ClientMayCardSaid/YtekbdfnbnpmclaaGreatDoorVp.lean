import Derived.Test.YtekbdfnbnpmclaaGreatDoorRows
import Derived.Test.YtekbdfnbnpmclaaGreatDoorVa
import Derived.Lib.LaidU8
import Derived.ChangeVars
set_option linter.unusedVariables false
set_option linter.unusedSimpArgs false
set_option maxRecDepth 20000
namespace Go.Proofs.YtekbdfnbnpmclaaGreatDoor
open Go.RowKit Pc
theorem digits_map : (Rows.laid_countersign_pct_digits : DataW Unit) = .agg ((List.range 16).map fun i => .lit (.int .i32 (hx i : Nat))) := rfl
theorem digits_named : Tryz.prog.globalNamed "countersign/pct.digits" = some 3 := by kernel_rfl
theorem digits_type : (Tryz.prog.globals[3]?).map (·.type) = some 140 := by kernel_rfl
theorem digits_cells : Tryz.prog.cellsOf 21 = 1 := by kernel_rfl
theorem digOk_of {W : World} {l : List (String × DataW Unit)} (h : laidMet Tryz.prog l W) (hm : ("countersign/pct.digits", Rows.laid_countersign_pct_digits) ∈ l) : DigOk W := by
  obtain ⟨g, t, cs, fuel, p, hg, ht, hvar, hd⟩ := Lib.laidMet.reads h hm
  obtain rfl := Option.some.inj (digits_named.symm.trans hg)
  obtain rfl := Option.some.inj (digits_type.symm.trans ht)
  rw [digits_map] at hd
  have hc : ∀ i, i < 16 → W.cell? ⟨3, i, none⟩ = some (.int .i32 (hx i : Nat)) := by
    intro i hi
    obtain ⟨f', d, q, h1, h2⟩ := Lib.array_elem Tryz.underlying140 hd i hi
    rw [digits_cells] at h2
    obtain ⟨z, hz, e, _⟩ := DataW.trod_int Tryz.underlying21 h2
    have h3 : d = .lit (.int .i32 (hx i : Nat)) := by
      rw [List.getElem?_map, List.getElem?_range hi] at h1
      simpa using h1.symm
    rw [h3] at e
    have e2 : ((hx i : Nat) : Int) = z := by
      have q := congrArg (fun x : DataW Unit => match x with | .lit (.int _ n) => n | _ => 0) (congrArg Prod.fst e)
      exact q
    have hcell := World.var?_cell hg hvar i
    rw [hcell]
    have := congrArg (·[0]?) hz
    simp only [Nat.mul_one, List.getElem?_take, List.getElem?_drop] at this
    rw [e2]
    simpa using this
  exact ⟨by have := World.block_lt_of_cell? W _ (hc 0 (by omega)); simpa using this, hc⟩
end Go.Proofs.YtekbdfnbnpmclaaGreatDoor
