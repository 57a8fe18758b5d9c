import Derived.Test.YtolfcpbcccbmmaaGreatDoorPd
set_option linter.unusedVariables false
set_option linter.unusedSimpArgs false
set_option maxRecDepth 20000
namespace Go.Proofs.YtolfcpbcccbmmaaGreatDoor
open Go.RowKit Pc
theorem dgI_some {c x : Nat} (h : dg c = some x) : dgI c = x := by rw [dgI, h]
theorem dgI_none {c : Nat} (h : dg c = none) : dgI c = -1 := by rw [dgI, h]
theorem run_index_at {P : Program} (T : TypeId) (hT : P.underlying T = some .string) (t : ByteArray) (k a : Nat) (hk : k < t.size) (ha : (t[k]'hk).toNat = a) (W : World) : (Instr.index T (.string t) (.int .i64 (k : Int))).run P W = .ok (.int .u8 (a : Int)) W := by
  rw [run_index_string W _ _ _ _ hT, dif_pos ⟨by omega, by omega⟩]
  simp [ha]
theorem or_and : ∀ p q : Fin 16, bits .or .i64 ((p.val : Int) * 16) (bits .and .i64 (q.val : Int) 15) % 256 = ((p.val * 16 + q.val : Nat) : Int) := by decide +kernel
/-- some byte, and no -/
def NoByte (w : World) (e : Ending) (w' : World) : Prop := ∃ v : Nat, v < 256 ∧ e = .returned (.tuple #[.int .u8 (v : Int), .bool false]) ∧ ∃ n, w' = w.drewN n
set_option maxHeartbeats 1000000 in
theorem byByte_short (t : ByteArray) (w : World) (h : t.size < 2) : Calls Tryz.prog 96 #[.string t] w (NoByte w) := by
  have h' : (t.size : Int) < 2 := by omega
  go_enter Tryz.func96, Tryz.ntmps96
  go_wp2_with fail
  go_ret2
  exact ⟨0, by omega, rfl, 0, rfl⟩
set_option maxHeartbeats 1000000 in
theorem byByte_yes (t : ByteArray) (a b p q : Nat) (w : World) (hd : DigOk w) (h : 2 ≤ t.size) (ha : (t[0]'(by omega)).toNat = a) (hb : (t[1]'(by omega)).toNat = b) (ha2 : a < 256) (hb2 : b < 256) (hm : t.size ≤ 1000000) (hp : dg a = some p) (hq : dg b = some q) :
    Calls Tryz.prog 96 #[.string t] w fun e w' => e = .returned (.tuple #[.int .u8 (p * 16 + q : Nat), .bool true]) ∧ ∃ n, w' = w.drewN n := by
  have c1 := Lib.hid (fun n => index_walk a (w.drewN n) hd ha2)
  have c2 := Lib.hid (fun n => index_walk b (w.drewN n) hd hb2)
  rw [dgI_some hp] at c1
  rw [dgI_some hq] at c2
  have hp16 := (dg_hx hp).1
  have hq16 := (dg_hx hq).1
  have HV : Hid (bits .or .i64 ((p : Int) * 16) (bits .and .i64 (q : Int) 15) % 256 = ((p * 16 + q : Nat) : Int)) := or_and ⟨p, hp16⟩ ⟨q, hq16⟩
  have i0 : ∀ W, (Instr.index 9 (.string t) (.int .i64 0)).run Tryz.prog W = .ok (.int .u8 (a : Int)) W := fun W => run_index_at 9 Tryz.underlying9 t 0 a _ ha W
  have i1 : ∀ W, (Instr.index 9 (.string t) (.int .i64 1)).run Tryz.prog W = .ok (.int .u8 (b : Int)) W := fun W => run_index_at 9 Tryz.underlying9 t 1 b _ hb W
  have s1 : IntKind.i32.wrap (a : Int) = (a : Int) := by rw [IntKind.wrap_i32]; omega
  have s2 : IntKind.i32.wrap (b : Int) = (b : Int) := by rw [IntKind.wrap_i32]; omega
  clear hd ha hb hp hq
  go_enter Tryz.func96, Tryz.ntmps96
  go_wp2_with fail
  go_quiet ((go_at_call 101; first | (with_reducible exact quiet_left (c1.out _)) | (with_reducible exact quiet_left (c2.out _))))
  clear i0 i1 s1 s2
  go_wp2_with fail
  go_ret2
  exact ⟨by rw [← HV.out]; rfl, _, rfl⟩
theorem noByte_of {w w' : World} {X : Int} {n : Nat} (h0 : 0 ≤ X) (h1 : X < 256) (hw : w' = w.drewN n) : NoByte w (.returned (.tuple #[.int .u8 X, .bool false])) w' :=
  ⟨X.toNat, by omega, by rw [Int.toNat_of_nonneg h0], n, hw⟩
set_option maxHeartbeats 1000000 in
theorem byByte_no (t : ByteArray) (a b : Nat) (w : World) (hd : DigOk w) (h : 2 ≤ t.size) (ha : (t[0]'(by omega)).toNat = a) (hb : (t[1]'(by omega)).toNat = b) (ha2 : a < 256) (hb2 : b < 256) (hm : t.size ≤ 1000000) (hno : dg a = none ∨ dg b = none) :
    Calls Tryz.prog 96 #[.string t] w (NoByte w) := by
  have c1 := Lib.hid (fun n => index_walk a (w.drewN n) hd ha2)
  have c2 := Lib.hid (fun n => index_walk b (w.drewN n) hd hb2)
  have hcase : (∃ q : Nat, q < 16 ∧ dgI a = -1 ∧ dgI b = q) ∨ (∃ p : Nat, p < 16 ∧ dgI a = p ∧ dgI b = -1) ∨ (dgI a = -1 ∧ dgI b = -1) := by
    cases da : dg a with
    | none =>
      cases db : dg b with
      | none => exact .inr (.inr ⟨dgI_none da, dgI_none db⟩)
      | some q => exact .inl ⟨q, (dg_hx db).1, dgI_none da, dgI_some db⟩
    | some p =>
      cases db : dg b with
      | none => exact .inr (.inl ⟨p, (dg_hx da).1, dgI_some da, dgI_none db⟩)
      | some q => rw [da, db] at hno; simp at hno
  have i0 : ∀ W, (Instr.index 9 (.string t) (.int .i64 0)).run Tryz.prog W = .ok (.int .u8 (a : Int)) W := fun W => run_index_at 9 Tryz.underlying9 t 0 a _ ha W
  have i1 : ∀ W, (Instr.index 9 (.string t) (.int .i64 1)).run Tryz.prog W = .ok (.int .u8 (b : Int)) W := fun W => run_index_at 9 Tryz.underlying9 t 1 b _ hb W
  have s1 : IntKind.i32.wrap (a : Int) = (a : Int) := by rw [IntKind.wrap_i32]; omega
  have s2 : IntKind.i32.wrap (b : Int) = (b : Int) := by rw [IntKind.wrap_i32]; omega
  clear hd ha hb hno
  rcases hcase with ⟨q, hq, e1, e2⟩ | ⟨p, hp, e1, e2⟩ | ⟨e1, e2⟩
  all_goals
    rw [e1] at c1
    rw [e2] at c2
    clear e1 e2
    go_enter Tryz.func96, Tryz.ntmps96
    go_wp2_with fail
    go_quiet ((go_at_call 101; first | (with_reducible exact quiet_left (c1.out _)) | (with_reducible exact quiet_left (c2.out _))))
    clear i0 i1 s1 s2
    go_wp2_with fail
    go_ret2
    exact noByte_of (Int.emod_nonneg _ (by decide)) (Int.emod_lt_of_pos _ (by decide)) rfl
end Go.Proofs.YtolfcpbcccbmmaaGreatDoor
