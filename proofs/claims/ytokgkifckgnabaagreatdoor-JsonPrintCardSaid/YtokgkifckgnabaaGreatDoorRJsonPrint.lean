/- JsonPrint ('countersignlaw12.JsonPrint'): for every input the law returns true and leaves its arguments as they were; no condition. -/
import Derived.Test.YtokgkifckgnabaaGreatDoorRows
import Derived.Test.YtokgkifckgnabaaGreatDoorMz
import Derived.WalkKit
import Derived.ProofKit
import Derived.OpenShut
import Derived.ShutString
import Derived.ChangeOld
import Derived.Below
import Derived.Test.YtokgkifckgnabaaGreatDoorTie
import Derived.Test.YtokgkifckgnabaaGreatDoorCards
import Derived.SevenTiedAt
import Derived.Lay
import Derived.JoinedOf
import Derived.Test.YtokgkifckgnabaaGreatDoorLe
namespace Go.Proofs.YtokgkifckgnabaaGreatDoor.jsonPrint
open Go.ChangeShapes Go.WideShapes Go.ChangeAt Go.RowKit
open Go.ChangeMaps (open_string shut_string)
set_option linter.unusedVariables false

theorem own : ownKnob Tryz.prog.godebug = none := by kernel_rfl
theorem laidOut : laidOutB Tryz.prog = true := by kernel_rfl

theorem walk (v : Jv) (k : Int) (b : Bool) (n : Int) (s : ByteArray) (NA : Option Addr) (nn nc : Nat) (A : Option Addr) (m c : Nat) (a1 : Option Addr) (len1 cap1 : Nat) (z1 : List Int) (w : World) (hdig : LaidB w w.heap.size) (w0 : JvV w 0 v [.int .i64 k, .bool b, .int .i64 n, .string s, .slice NA nn nc, .slice A m c] ∧ okJ v) (w1 : IsRow .i64 w a1 len1 cap1 z1) :
    Calls Tryz.prog 4 #[.agg #[.int .i64 k, .bool b, .int .i64 n, .string s, .slice NA nn nc, .slice A m c], .slice a1 len1 cap1] w fun e w' => e = .returned (.bool true) ∧ Below w.heap.size w w' := by
  obtain ⟨l1, rfl, h1⟩ := w1.intsIn
  exact print12_law v [.int .i64 k, .bool b, .int .i64 n, .string s, .slice NA nn nc, .slice A m c] l1 _ _ w w0.1 w0.2 h1 hdig

set_option maxRecDepth 100000 in
theorem lifted (os : Os) (started : os.Started) (H : Type) (enc : TypeId × Value → H) :
    ReturnsInHanded {} Tryz.checked os 4 .any (fun w args => (Rows.jsonPrintSpec.pre enc Tryz.prog Tryz.f4 [] false w args ∧ laidMet Tryz.prog Rows.jsonPrintRow.laid w) ∧ sizedMet enc Tryz.prog Tryz.f4 (OpenSpec.ofChange Rows.jsonPrintSpec) false w args) (Rows.jsonPrintSpec.post enc Tryz.prog Tryz.f4 false true false false) := by
  refine returnsInHanded_of_change_and (C := Tryz.checked) (X := fun w _ => laidMet Tryz.prog Rows.jsonPrintRow.laid w) (fun _ _ _ hh h => h.of_heap hh) own started (by kernel_rfl) Tryz.func4
    (ChangeSpec.witness_at (enc := enc) (C := Tryz.checked) (os := os) (X := fun w _ => laidMet Tryz.prog Rows.jsonPrintRow.laid w) false (World.laidAll Tryz.prog os Rows.jsonPrintRow.laid) #[.agg #[.int .i64 0, .bool false, .int .i64 0, .string ⟨#[]⟩, .slice none 0 0, .slice none 0 0], .slice none 0 0] 8 (World.laidAll_os _ _ _) (by kernel_rfl) (by kernel_rfl) (by kernel_rfl) (by kernel_rfl) (by kernel_rfl) (laidMet_laidAll _ (by kernel_rfl) (by kernel_rfl))) ?_
  intro W base args ds gs before hval0 hW _ _ hL _
  have hdig : LaidB W W.heap.size := laidB_of hL (by repeat (first | exact List.mem_cons_self .. | apply List.mem_cons_of_mem)) (by repeat (first | exact List.mem_cons_self .. | apply List.mem_cons_of_mem)) (by repeat (first | exact List.mem_cons_self .. | apply List.mem_cons_of_mem))
  have hval : ∀ (j : Nat) t v, Tryz.f4.params[j]? = some t → args[j]? = some v → Value.okWide Tryz.prog W .any base t v := hval0
  have hW' := hW
  obtain ⟨p, q, hA0, hV, rfl, hfz, hnd⟩ := hW
  have hA : DataW.TrodAll enc Tryz.prog W 0 (fun _ => true) true Tryz.f4.params.toList args.toList ds p := hA0
  rw [Tryz.params4] at hA hval
  obtain ⟨v0, vs0, d0, ds0, p0, q0, hargs, rfl, rfl, h0, r0⟩ := trodAll_cons hA
  obtain ⟨v1, vs1, d1, ds1, p1, q1, rfl, rfl, rfl, h1, r1⟩ := trodAll_cons r0
  obtain ⟨rfl, rfl, rfl⟩ := trodAll_nil r1
  obtain rfl : args = #[v0, v1] := by cases args; simp_all
  obtain ⟨rfl, rfl⟩ := trodVars_none hV
  have k0 := h0
  have lt0 : ∀ x ∈ p0, x.block < W.heap.size := by obtain ⟨m, hm⟩ := k0; exact DataW.trod_lt m _ _ _ hm
  obtain ⟨v, k, b, n, s, NA, nn, nc, A, m, c, rfl, w0⟩ : ∃ (v : Jv) (k : Int) (b : Bool) (n : Int) (s : ByteArray) (NA : Option Addr) (nn nc : Nat) (A : Option Addr) (m c : Nat), v0 = .agg #[.int .i64 k, .bool b, .int .i64 n, .string s, .slice NA nn nc, .slice A m c] ∧ JvV W 0 v [.int .i64 k, .bool b, .int .i64 n, .string s, .slice NA nn nc, .slice A m c] ∧ okJ v := by
    obtain ⟨cs, rfl, _⟩ := okWide_struct Tryz.underlying27 (hval 0 27 v0 rfl rfl)
    obtain ⟨fuel, hf⟩ := h0
    obtain ⟨t, ht, hok⟩ := val_trod fuel _ _ hf
    have e : Value.cells (.agg cs) = cs := by simp [Value.cells]
    obtain ⟨k, b, n, s, NA, nn, nc, A, m, c, hc⟩ := ht.form
    rw [e] at hc
    have hc2 : cs = #[.int .i64 k, .bool b, .int .i64 n, .string s, .slice NA nn nc, .slice A m c] := by rw [← Array.toList_inj, hc]
    subst hc2
    refine ⟨t, k, b, n, s, NA, nn, nc, A, m, c, rfl, ?_, hok⟩
    simpa [Value.cells] using ht
  obtain ⟨a1, len1, cap1, rfl⟩ := okWide_slice Tryz.underlying22 (hval 1 22 v1 rfl rfl)
  have k1 := h1
  have lt1 : ∀ x ∈ p1, x.block < W.heap.size := by obtain ⟨m, hm⟩ := k1; exact DataW.trod_lt m _ _ _ hm
  obtain ⟨z1, w1⟩ : ∃ zs, IsRow .i64 W a1 len1 cap1 zs := by
    obtain ⟨fuel, hf⟩ := h1
    rcases open_ints Tryz.underlying22 Tryz.underlying3 (by kernel_rfl) hf with ⟨hcs, _⟩ | ⟨x, l, c, zs, hcs, _, hl, hm, hz, _, hcell, hwz⟩
    · simp [Value.cells] at hcs
      obtain ⟨rfl, rfl, rfl⟩ := hcs
      exact ⟨[], .inl ⟨rfl, rfl, rfl, rfl⟩⟩
    · simp [Value.cells] at hcs
      obtain ⟨rfl, rfl, rfl⟩ := hcs
      exact ⟨zs, .inr ⟨_, rfl, hl, hm, by simpa using hz, hcell, hwz⟩⟩
  clear hA0 hval0
  refine (walk v k b n s NA nn nc A m c a1 len1 cap1 z1 W hdig w0 w1).mono fun e W' ⟨he, bel⟩ => ?_
  subst he
  exact ⟨_, rfl, _, _, _, [], _, [], hW', trodAll_mk1 (shut_bool Tryz.underlying4 _), (trodAll_cons_mk (Below.trod laidOut (by kernel_rfl) (of_decide_eq_true (by kernel_rfl)) k0 bel lt0) (trodAll_cons_mk (Below.trod laidOut (by kernel_rfl) (of_decide_eq_true (by kernel_rfl)) k1 bel lt1) trodAll_mk0)), rfl, bel.frame _, fun h => by cases h⟩

theorem over : Rows.jsonPrintRow.holds Tryz.pinned (OpenSpec.ofChange Rows.jsonPrintSpec) :=
  OpenClaim.holds_of_wide 4 Tryz.f4 rfl rfl rfl rfl rfl rfl rfl ⟨rfl, rfl, rfl, rfl, rfl⟩ rfl rfl rfl rfl rfl (by kernel_rfl) Tryz.func4 (by kernel_rfl)
    (of_decide_eq_true (by kernel_rfl)) (by unfold Func.isWrapper; first | (rw [if_pos (by decide +kernel)]; kernel_rfl) | (rw [if_neg (by decide +kernel)]; exact ⟨rfl, rfl⟩))
    (fun os started H enc _ => lifted os started H enc)

theorem row_said : Rows.JsonPrintSaid := over

theorem proved : Rows.JsonPrintCardSaid :=
  Claim7.holds_tied_plain_at .later [] [.data, .data, .data, .sentinel, .sentinel] true (true, "9b7b8b63b5b90ecc20989be99255aead553328a7359756e26ee4952b679d7691") true
    row_said (fun _ h => by cases h) (by kernel_rfl) (fun _ h => by cases h) jsonPrint_row_tie rfl ⟨rfl, rfl⟩ (by kernel_rfl) rfl
    (fun f fn hf hfn => by
      obtain rfl : f = 4 := Option.some.inj ((show Tryz.prog.funcNamed "countersign/countersignlaw12.JsonPrint" = some 4 by kernel_rfl).symm.trans hf) |>.symm
      obtain rfl : fn = Tryz.f4 := (Option.some.inj (Tryz.func4.symm.trans hfn)).symm
      exact ⟨by kernel_rfl, fun j t ht => by
        rw [Tryz.params4] at ht
        have h3 : t = 22 ∨ t = 27 := by
          rcases j with _ | _ | j <;> first | (simp at ht; done) | (simp at ht; subst ht; simp)
        rcases h3 with rfl | rfl
        · exact (show Tryz.prog.wantsStandIn 22 = false by kernel_rfl)
        · exact (show Tryz.prog.wantsStandIn 27 = false by kernel_rfl)⟩)
    (by kernel_rfl)
end Go.Proofs.YtokgkifckgnabaaGreatDoor.jsonPrint
