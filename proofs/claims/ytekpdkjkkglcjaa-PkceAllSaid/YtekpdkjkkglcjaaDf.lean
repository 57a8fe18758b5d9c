import Derived.Test.YtekpdkjkkglcjaaDe
import Derived.Test.YtekpdkjkkglcjaaSb
import Derived.BigGuard
set_option linter.unusedVariables false
set_option linter.unusedSimpArgs false
set_option maxRecDepth 20000
namespace Go.Proofs.Ytekpdkjkkglcjaa
open Go.RowKit
def zero4 : Array Value := #[.int .i64 0, .int .i64 0, .string ⟨#[]⟩, .slice none 0 0]
theorem term_size : (Try.prog.info? 35).map (·.size) = some 4 := by kernel_rfl
theorem RdAt.count {w : World} {g : Nat} {l : List UInt8} {p n : Nat} (h : RdAt w g l p n) (hn : n ≤ 64) : RdAt (w.setCell ⟨g, 2, none⟩ (.int .i64 ((n : Int) + 1))) g l p (n + 1) := by
  obtain ⟨h1, h2, h3, A, c, hc, hc2, hk, hr⟩ := h
  refine ⟨h1, h2, by omega, A, c, hc, hc2, ?_, hr.setCell (Nat.le_refl _) _⟩
  have := hk.set_ 2 (.int .i64 ((n : Int) + 1))
  simpa using this
theorem results_c_t {fn : Func} {p u : Tmp} (h : fn.results = #[.cell p 35, .tmp u]) (tmps : Array Value) (w : World) (g : Nat) (c0 c1 c2 c3 : Value)
    (hp : tmps.getD p undef = .pointer (some ⟨g, 0, none⟩)) (hb : Blk w g 35 #[c0, c1, c2, c3]) : (results fn tmps).run Try.prog w = .ok (.tuple #[.agg #[c0, c1, c2, c3], tmps.getD u undef]) w := by
  have hp' : tmps[p]?.getD undef = .pointer (some ⟨g, 0, none⟩) := by simpa using hp
  simp [results, h, hp', asAddr, run_loadVar_row w g 35 35 #[c0, c1, c2, c3] (0, 0) _ hb Try.underlying35 rfl term_size]
theorem rd_facts {w : World} {g : Nat} {l : List UInt8} {p n : Nat} (h : RdAt w g l p n) :
    w.cell? ⟨g, 2, none⟩ = some (.int .i64 (n : Int)) ∧ w.frozen? ⟨g, 2, none⟩ = false ∧ (w.setCell ⟨g, 2, none⟩ (.int .i64 ((n : Int) + 1))).cell? ⟨g, 2, none⟩ = some (.int .i64 ((n : Int) + 1)) := by
  obtain ⟨h1, h2, h3, A, c, hc, hc2, hk, hr⟩ := h
  refine ⟨hk.cell 2, hk.frozen 2, ?_⟩
  have := (hk.set_ 2 (.int .i64 ((n : Int) + 1))).cell 2
  simpa using this
set_option maxHeartbeats 4000000 in
theorem term_big (l : List UInt8) (g p n : Nat) (deep : Int) (w : World) (h : RdAt w g l p n) (hn : n ≤ 64) (hd : n = 64 ∨ deep = 17) (hd2 : deep ≤ 17) (hd3 : 0 ≤ deep) :
    Calls Try.prog 67 #[.pointer (some ⟨g, 0, none⟩), .int .i64 deep] w (TermR g l (.error 4) w) := by
  have hgl := h.lt
  obtain ⟨c2, f2, c2'⟩ := rd_facts h
  have hbx : Blk ((w.setCell ⟨g, 2, none⟩ (.int .i64 ((n : Int) + 1))).alloc (.cells zero4 35)) w.heap.size 35 zero4 := by
    have := Blk.new (w.setCell ⟨g, 2, none⟩ (.int .i64 ((n : Int) + 1))) 35 zero4
    simpa using this
  have HB := Lib.hid hbx
  have hgr : Hid (∀ q, w.grownBy (((w.setCell ⟨g, 2, none⟩ (.int .i64 ((n : Int) + 1))).alloc (.cells zero4 35)).drewN q) (some g)) := fun q => only_drewN (only_alloc (only_setCell (only_refl _ _) (.inl rfl) _) _) q
  have n1 : (0 : Int) ≤ n := by omega
  have hw1 : wrap64 ((n : Int) + 1) = (n : Int) + 1 := by unfold wrap64; omega
  clear h hbx
  by_cases h64 : n = 64
  · have e1 : (64 : Int) < (n : Int) + 1 := by omega
    clear hd h64 hn
    go_enter Try.func67, Try.ntmps67
    go_wp2_with fail
    refine bodyPost_ret (results_c_t Try.results67 _ _ w.heap.size _ _ _ _ rfl HB.out) rfl ⟨0, 0, ⟨#[]⟩, none, 0, 0, rfl, hgr.out 0⟩
  · have h64' : (n : Int) + 1 ≤ 64 := by omega
    have h17 : deep = 17 := by omega
    subst h17
    clear hd hd2 hd3 h64 hn
    go_enter Try.func67, Try.ntmps67
    go_wp2_with fail
    refine bodyPost_ret (results_c_t Try.results67 _ _ w.heap.size _ _ _ _ rfl HB.out) rfl ⟨0, 0, ⟨#[]⟩, none, 0, 0, rfl, hgr.out 0⟩
end Go.Proofs.Ytekpdkjkkglcjaa
