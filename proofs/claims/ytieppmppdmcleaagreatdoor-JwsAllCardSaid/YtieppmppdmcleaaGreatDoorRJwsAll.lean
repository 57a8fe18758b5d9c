/- JwsAll ('countersignlaw15.JwsAll'): for every input the law returns true and leaves its arguments as they were; no condition. -/
import Derived.Test.YtieppmppdmcleaaGreatDoorZl
import Derived.Test.YtieppmppdmcleaaGreatDoorTie
import Derived.Test.YtieppmppdmcleaaGreatDoorCards
import Derived.Lay
namespace Go.Proofs.YtieppmppdmcleaaGreatDoor.jwsAll
open Go.ChangeShapes Go.WideShapes Go.ChangeAt Go.RowKit
open Go.ChangeMaps (open_string shut_string)
set_option linter.unusedVariables false

theorem own : ownKnob Tryz.prog.godebug = none := by kernel_rfl
theorem laidOut : laidOutB Tryz.prog = true := by kernel_rfl

theorem walk (a0 : Option Addr) (len0 cap0 : Nat) (z0 : List Int) (v : Jv) (k : Int) (b : Bool) (n : Int) (s : ByteArray) (NA : Option Addr) (nn nc : Nat) (A : Option Addr) (m c : Nat) (a2 : Int) (a3 : ByteArray) (a4 : Int) (a5 : Int) (w : World) (hdig : LaidB w w.heap.size) (w0 : IsRow .i64 w a0 len0 cap0 z0) (w1 : JvV w 0 v [.int .i64 k, .bool b, .int .i64 n, .string s, .slice NA nn nc, .slice A m c] ∧ okJ v) (w2 : (Lit.int .i64 a2).wf = true) (w4 : (Lit.int .i64 a4).wf = true) (w5 : (Lit.int .u8 a5).wf = true) :
  Calls Tryz.prog 3 #[.slice a0 len0 cap0, .agg #[.int .i64 k, .bool b, .int .i64 n, .string s, .slice NA nn nc, .slice A m c], .int .i64 a2, .string a3, .int .i64 a4, .int .u8 a5] w fun e w' => e = .returned (.bool true) ∧ Below w.heap.size w w' := by
 obtain ⟨l0, rfl, h0⟩ := w0.intsIn
 exact all15_law v [.int .i64 k, .bool b, .int .i64 n, .string s, .slice NA nn nc, .slice A m c] l0 _ _ _ _ _ _ w w1.1 w1.2 h0 (i64_wf w2) (i64_wf w4) (u8_wf w5) hdig

set_option maxRecDepth 100000 in
theorem lifted (os : Os) (started : os.Started) (H : Type) (enc : TypeId × Value → H) :
  ReturnsInHanded {} Tryz.checked os 3 .any (fun w args => (Rows.jwsAllSpec.pre enc Tryz.prog Tryz.f3 [] false w args ∧ laidMet Tryz.prog Rows.jwsAllRow.laid w) ∧ sizedMet enc Tryz.prog Tryz.f3 (OpenSpec.ofChange Rows.jwsAllSpec) false w args) (Rows.jwsAllSpec.post enc Tryz.prog Tryz.f3 false true false false) := by
 refine returnsInHanded_of_change_and (C := Tryz.checked) (X := fun w _ => laidMet Tryz.prog Rows.jwsAllRow.laid w) (fun _ _ _ hh h => h.of_heap hh) own started (by kernel_rfl) Tryz.func3
  (ChangeSpec.witness_at (enc := enc) (C := Tryz.checked) (os := os) (X := fun w _ => laidMet Tryz.prog Rows.jwsAllRow.laid w) false (World.laidAll Tryz.prog os Rows.jwsAllRow.laid) #[.slice none 0 0, .agg #[.int .i64 0, .bool false, .int .i64 0, .string ⟨#[]⟩, .slice none 0 0, .slice none 0 0], .int .i64 0, .string ByteArray.empty, .int .i64 0, .int .u8 0] 8 (World.laidAll_os _ _ _) (by kernel_rfl) (by kernel_rfl) (by kernel_rfl) (by kernel_rfl) (by kernel_rfl) (laidMet_laidAll _ (by kernel_rfl) (by kernel_rfl))) ?_
 intro W base args ds gs before hval0 hW _ _ hL _
 have hdig : LaidB W W.heap.size := laidB_of hL (by repeat (first | exact List.mem_cons_self .. | apply List.mem_cons_of_mem)) (by repeat (first | exact List.mem_cons_self .. | apply List.mem_cons_of_mem)) (by repeat (first | exact List.mem_cons_self .. | apply List.mem_cons_of_mem))
 have hval : ∀ (j : Nat) t v, Tryz.f3.params[j]? = some t → args[j]? = some v → Value.okWide Tryz.prog W .any base t v := hval0
 have hW' := hW
 obtain ⟨p, q, hA0, hV, rfl, hfz, hnd⟩ := hW
 have hA : DataW.TrodAll enc Tryz.prog W 0 (fun _ => true) true Tryz.f3.params.toList args.toList ds p := hA0
 rw [Tryz.params3] at hA hval
 obtain ⟨v0, vs0, d0, ds0, p0, q0, hargs, rfl, rfl, h0, r0⟩ := trodAll_cons hA
 obtain ⟨v1, vs1, d1, ds1, p1, q1, rfl, rfl, rfl, h1, r1⟩ := trodAll_cons r0
 obtain ⟨v2, vs2, d2, ds2, p2, q2, rfl, rfl, rfl, h2, r2⟩ := trodAll_cons r1
 obtain ⟨v3, vs3, d3, ds3, p3, q3, rfl, rfl, rfl, h3, r3⟩ := trodAll_cons r2
 obtain ⟨v4, vs4, d4, ds4, p4, q4, rfl, rfl, rfl, h4, r4⟩ := trodAll_cons r3
 obtain ⟨v5, vs5, d5, ds5, p5, q5, rfl, rfl, rfl, h5, r5⟩ := trodAll_cons r4
 obtain ⟨rfl, rfl, rfl⟩ := trodAll_nil r5
 obtain rfl : args = #[v0, v1, v2, v3, v4, v5] := by cases args; simp_all
 obtain ⟨rfl, rfl⟩ := trodVars_none hV
 obtain ⟨a0, len0, cap0, rfl⟩ := okWide_slice Tryz.underlying22 (hval 0 22 v0 rfl rfl)
 have k0 := h0
 have lt0 : ∀ x ∈ p0, x.block < W.heap.size := by obtain ⟨m, hm⟩ := k0; exact DataW.trod_lt m _ _ _ hm
 obtain ⟨z0, w0⟩ : ∃ zs, IsRow .i64 W a0 len0 cap0 zs := by
  obtain ⟨fuel, hf⟩ := h0
  rcases open_ints Tryz.underlying22 Tryz.underlying3 (by kernel_rfl) hf with ⟨hcs, _⟩ | ⟨x, l, c, zs, hcs, _, hl, hm, hz, _, hcell, hwz⟩
  ·
   simp [Value.cells] at hcs
   obtain ⟨rfl, rfl, rfl⟩ := hcs
   exact ⟨[], .inl ⟨rfl, rfl, rfl, rfl⟩⟩
  ·
   simp [Value.cells] at hcs
   obtain ⟨rfl, rfl, rfl⟩ := hcs
   exact ⟨zs, .inr ⟨_, rfl, hl, hm, by simpa using hz, hcell, hwz⟩⟩
 have k1 := h1
 have lt1 : ∀ x ∈ p1, x.block < W.heap.size := by obtain ⟨m, hm⟩ := k1; exact DataW.trod_lt m _ _ _ hm
 obtain ⟨v, k, b, n, s, NA, nn, nc, A, m, c, rfl, w1⟩ : ∃ (v : Jv) (k : Int) (b : Bool) (n : Int) (s : ByteArray) (NA : Option Addr) (nn nc : Nat) (A : Option Addr) (m c : Nat), v1 = .agg #[.int .i64 k, .bool b, .int .i64 n, .string s, .slice NA nn nc, .slice A m c] ∧ JvV W 0 v [.int .i64 k, .bool b, .int .i64 n, .string s, .slice NA nn nc, .slice A m c] ∧ okJ v := by
  obtain ⟨cs, rfl, _⟩ := okWide_struct Tryz.underlying26 (hval 1 26 v1 rfl rfl)
  obtain ⟨fuel, hf⟩ := h1
  obtain ⟨t, ht, hok⟩ := val_trod fuel _ _ hf
  have e : Value.cells (.agg cs) = cs := by simp [Value.cells]
  obtain ⟨k, b, n, s, NA, nn, nc, A, m, c, hc⟩ := ht.form
  rw [e] at hc
  have hc2 : cs = #[.int .i64 k, .bool b, .int .i64 n, .string s, .slice NA nn nc, .slice A m c] := by rw [← Array.toList_inj, hc]
  subst hc2
  refine ⟨t, k, b, n, s, NA, nn, nc, A, m, c, rfl, ?_, hok⟩
  simpa [Value.cells] using ht
 obtain ⟨a2, rfl, rfl, rfl, w2⟩ := open_int Tryz.underlying3 (hval 2 3 v2 rfl rfl) h2
 obtain ⟨a3, rfl, rfl, rfl, w3⟩ := open_string Tryz.underlying9 (hval 3 9 v3 rfl rfl) h3
 obtain ⟨a4, rfl, rfl, rfl, w4⟩ := open_int Tryz.underlying3 (hval 4 3 v4 rfl rfl) h4
 obtain ⟨a5, rfl, rfl, rfl, w5⟩ := open_int Tryz.underlying5 (hval 5 5 v5 rfl rfl) h5
 clear hA0 hval0
 refine (walk a0 len0 cap0 z0 v k b n s NA nn nc A m c a2 a3 a4 a5 W hdig w0 w1 w2 w4 w5).mono fun e W' ⟨he, bel⟩ => ?_
 subst he
 exact ⟨_, rfl, _, _, _, [], _, [], hW', trodAll_mk1 (shut_bool Tryz.underlying4 _), (trodAll_cons_mk (Below.trod laidOut (by kernel_rfl) (of_decide_eq_true (by kernel_rfl)) k0 bel lt0) (trodAll_cons_mk (Below.trod laidOut (by kernel_rfl) (of_decide_eq_true (by kernel_rfl)) k1 bel lt1) (trodAll_cons_mk (shut_int Tryz.underlying3 w2) (trodAll_cons_mk (shut_string Tryz.underlying9 w3) (trodAll_cons_mk (shut_int Tryz.underlying3 w4) (trodAll_cons_mk (shut_int Tryz.underlying5 w5) trodAll_mk0)))))), rfl, bel.frame _, fun h => by cases h⟩

theorem over : Rows.jwsAllRow.holds Tryz.pinned (OpenSpec.ofChange Rows.jwsAllSpec) :=
 OpenClaim.holds_of_wide 3 Tryz.f3 rfl rfl rfl rfl rfl rfl rfl ⟨rfl, rfl, rfl, rfl, rfl⟩ rfl rfl rfl rfl rfl (by kernel_rfl) Tryz.func3 (by kernel_rfl)
  (of_decide_eq_true (by kernel_rfl)) (by unfold Func.isWrapper; first | (rw [if_pos (by decide +kernel)]; kernel_rfl) | (rw [if_neg (by decide +kernel)]; exact ⟨rfl, rfl⟩))
  (fun os started H enc _ => lifted os started H enc)

theorem row_said : Rows.JwsAllSaid := over

theorem proved : Rows.JwsAllCardSaid :=
 Claim7.holds_tied_plain_at .later [] [.data, .data, .data, .data, .sentinel, .sentinel, .pinned] true (true, "8aae3b10bd1ce3893f0cd3aee8ea81929e3474d8e622be0bd2a9bac943bb4756") true
  row_said (fun _ h => by cases h) (by kernel_rfl) (fun _ h => by cases h) jwsAll_row_tie rfl ⟨rfl, rfl⟩ (by kernel_rfl) rfl
  (fun f fn hf hfn => by
   obtain rfl : f = 3 := Option.some.inj ((show Tryz.prog.funcNamed "countersign/countersignlaw15.JwsAll" = some 3 by kernel_rfl).symm.trans hf) |>.symm
   obtain rfl : fn = Tryz.f3 := (Option.some.inj (Tryz.func3.symm.trans hfn)).symm
   exact ⟨by kernel_rfl, fun j t ht => by
    rw [Tryz.params3] at ht
    have h3 : t = 3 ∨ t = 5 ∨ t = 9 ∨ t = 22 ∨ t = 26 := by
     rcases j with _ | _ | _ | _ | _ | _ | j <;> first | (simp at ht; done) | (simp at ht; subst ht; simp)
    rcases h3 with rfl | rfl | rfl | rfl | rfl
    ·
     exact (show Tryz.prog.wantsStandIn 3 = false by kernel_rfl)
    ·
     exact (show Tryz.prog.wantsStandIn 5 = false by kernel_rfl)
    ·
     exact (show Tryz.prog.wantsStandIn 9 = false by kernel_rfl)
    ·
     exact (show Tryz.prog.wantsStandIn 22 = false by kernel_rfl)
    ·
     exact (show Tryz.prog.wantsStandIn 26 = false by kernel_rfl)⟩)
  (by kernel_rfl)
end Go.Proofs.YtieppmppdmcleaaGreatDoor.jwsAll
