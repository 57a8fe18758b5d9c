/- countersignref2.num. No condition of its own. Printed by wip/tools/genEj.py. -/
import Derived.Test.YtekpdkjkkglcjaaDl
set_option linter.unusedVariables false
set_option linter.unusedSimpArgs false
set_option maxRecDepth 20000
namespace Go.Proofs.Ytekpdkjkkglcjaa
open Go.RowKit
set_option maxHeartbeats 4000000 in
theorem rnum_put (w0 : World) (bs : List UInt8) (vb : Value) (v : Int) (n : Int) (w : World) (hn : n = 2 ∨ n = 4) (hl : bs.length ≤ 1000000) (hown : w.ownsRow w0.heap.size 5 1 vb bs.length (Lib.byteCells bs)) (hb : Below w0.heap.size w0 w) :
    Calls Try.prog 42 #[vb, .int .i64 v, .int .i64 n] w (OwnB w0 w vb (bs ++ numB v n)) := by
  obtain ⟨i0, hi, hz0, hz1, hz2⟩ := info_parts4 info_u8
  have HO := Lib.hid hown
  clear hown
  rcases hn with rfl | rfl
  · rw [show numB v 2 = [byteI (v / 256), byteI v] from rfl]
    go_enter Try.func42, Try.ntmps42
    go_wp2_with fail
    go_loopw [0, 7] (fun bv iv wr => ∃ i : Nat, i ≤ 2 ∧ iv = .int .i64 (1 - (i : Int)) ∧ Hid (wr.ownsRow w0.heap.size 5 1 bv (bs ++ ([byteI (v / 256), byteI v]).take i).length (Lib.byteCells (bs ++ ([byteI (v / 256), byteI v]).take i))) ∧ Below w0.heap.size w0 wr ∧ Hid (RowOn w wr vb bv)) (fun _ iv _ => (intOf iv + 1).toNat)
    case atStart => exact ⟨0, by omega, rfl, by show World.ownsRow _ _ _ _ _ _ _; rw [List.take_zero, List.append_nil]; exact HO.out, hb, RowOn.refl _ _⟩
    case round =>
      clear hb
      obtain ⟨i, hi2, rfl, hown, hb, hro⟩ := hrel
      rcases show i = 0 ∨ i = 1 ∨ i = 2 by omega with rfl | rfl | rfl
      · rw [show (1 - ((0 : Nat) : Int)) = 1 by omega]
        obtain ⟨cs, hcs⟩ : ∃ cs, bs ++ [] = cs := ⟨_, rfl⟩
        have hlen : cs.length ≤ 1000010 := by rw [← hcs]; simp; omega
        have HCS := Lib.hid hcs
        have ho := hown.out
        rw [show List.take 0 [byteI (v / 256), byteI v] = [] from rfl, hcs] at ho
        have hrd := reads_new wr 5 [.int .u8 ((v / 256) % 256)]
        have hsz := hb.size
        clear hown hcs
        go_wp2_with (at_builtin; refine wpList_append_any (wr.alloc (.cells #[.int .u8 ((v / 256) % 256)] 5)) rfl (.tmp 14) (.tmp 20) 49 rfl w0.heap.size 5 i0 (.int .u8 0) 1 1 Try.underlying49 hi hz0 hz1 hz2 rfl (by decide) u0 cs.length (Lib.byteCells cs) rfl (ho.alloc _) (wr.heap.size + 1) _ 1 1 [.int .u8 ((v / 256) % 256)] rfl hrd (by simp [Value.oneCell']) (by unfold maxLen; omega) (by omega) (by simp; omega) ?_; intro v' w2 hown2 hg2 hat2)
        have ho3 := Lib.hid (own_byte hown2)
        have hb3 : Below w0.heap.size w0 w2 := (hb.alloc hsz _).grown hg2 (by simp; omega) (fun g hg => (ho.lt g hg).1)
        have hro3 := Lib.hid (hro.out.trans (RowOn.step hg2 hat2))
        clear hat2
        go_roundw
        case rel =>
          refine ⟨1, by omega, by go_num, ?_, hb3, hro3⟩
          show World.ownsRow _ _ _ _ _ _ _
          have h9 := ho3.out
          rw [← HCS.out, List.append_assoc] at h9
          exact h9
        case measure => simp [intOf]
      · rw [show (1 - ((1 : Nat) : Int)) = 0 by omega]
        obtain ⟨cs, hcs⟩ : ∃ cs, bs ++ [byteI (v / 256)] = cs := ⟨_, rfl⟩
        have hlen : cs.length ≤ 1000010 := by rw [← hcs]; simp; omega
        have HCS := Lib.hid hcs
        have ho := hown.out
        rw [show List.take 1 [byteI (v / 256), byteI v] = [byteI (v / 256)] from rfl, hcs] at ho
        have hrd := reads_new wr 5 [.int .u8 (v % 256)]
        have hsz := hb.size
        clear hown hcs
        go_wp2_with (at_builtin; refine wpList_append_any (wr.alloc (.cells #[.int .u8 (v % 256)] 5)) rfl (.tmp 14) (.tmp 20) 49 rfl w0.heap.size 5 i0 (.int .u8 0) 1 1 Try.underlying49 hi hz0 hz1 hz2 rfl (by decide) u0 cs.length (Lib.byteCells cs) rfl (ho.alloc _) (wr.heap.size + 1) _ 1 1 [.int .u8 (v % 256)] rfl hrd (by simp [Value.oneCell']) (by unfold maxLen; omega) (by omega) (by simp; omega) ?_; intro v' w2 hown2 hg2 hat2)
        have ho3 := Lib.hid (own_byte hown2)
        have hb3 : Below w0.heap.size w0 w2 := (hb.alloc hsz _).grown hg2 (by simp; omega) (fun g hg => (ho.lt g hg).1)
        have hro3 := Lib.hid (hro.out.trans (RowOn.step hg2 hat2))
        clear hat2
        go_roundw
        case rel =>
          refine ⟨2, by omega, by go_num, ?_, hb3, hro3⟩
          show World.ownsRow _ _ _ _ _ _ _
          have h9 := ho3.out
          rw [← HCS.out, List.append_assoc] at h9
          exact h9
        case measure => simp [intOf]
      · rw [show (1 - ((2 : Nat) : Int)) = -1 by omega]
        go_wp2_with fail
        go_ret
        exact ⟨_, rfl, hown.out, hb, hro.out⟩
  · rw [show numB v 4 = [byteI (v / 16777216), byteI (v / 65536), byteI (v / 256), byteI v] from rfl]
    go_enter Try.func42, Try.ntmps42
    go_wp2_with fail
    go_loopw [0, 7] (fun bv iv wr => ∃ i : Nat, i ≤ 4 ∧ iv = .int .i64 (3 - (i : Int)) ∧ Hid (wr.ownsRow w0.heap.size 5 1 bv (bs ++ ([byteI (v / 16777216), byteI (v / 65536), byteI (v / 256), byteI v]).take i).length (Lib.byteCells (bs ++ ([byteI (v / 16777216), byteI (v / 65536), byteI (v / 256), byteI v]).take i))) ∧ Below w0.heap.size w0 wr ∧ Hid (RowOn w wr vb bv)) (fun _ iv _ => (intOf iv + 1).toNat)
    case atStart => exact ⟨0, by omega, rfl, by show World.ownsRow _ _ _ _ _ _ _; rw [List.take_zero, List.append_nil]; exact HO.out, hb, RowOn.refl _ _⟩
    case round =>
      clear hb
      obtain ⟨i, hi2, rfl, hown, hb, hro⟩ := hrel
      rcases show i = 0 ∨ i = 1 ∨ i = 2 ∨ i = 3 ∨ i = 4 by omega with rfl | rfl | rfl | rfl | rfl
      · rw [show (3 - ((0 : Nat) : Int)) = 3 by omega]
        obtain ⟨cs, hcs⟩ : ∃ cs, bs ++ [] = cs := ⟨_, rfl⟩
        have hlen : cs.length ≤ 1000010 := by rw [← hcs]; simp; omega
        have HCS := Lib.hid hcs
        have ho := hown.out
        rw [show List.take 0 [byteI (v / 16777216), byteI (v / 65536), byteI (v / 256), byteI v] = [] from rfl, hcs] at ho
        have hrd := reads_new wr 5 [.int .u8 ((v / 16777216) % 256)]
        have hsz := hb.size
        clear hown hcs
        go_wp2_with (at_builtin; refine wpList_append_any (wr.alloc (.cells #[.int .u8 ((v / 16777216) % 256)] 5)) rfl (.tmp 14) (.tmp 20) 49 rfl w0.heap.size 5 i0 (.int .u8 0) 1 1 Try.underlying49 hi hz0 hz1 hz2 rfl (by decide) u0 cs.length (Lib.byteCells cs) rfl (ho.alloc _) (wr.heap.size + 1) _ 1 1 [.int .u8 ((v / 16777216) % 256)] rfl hrd (by simp [Value.oneCell']) (by unfold maxLen; omega) (by omega) (by simp; omega) ?_; intro v' w2 hown2 hg2 hat2)
        have ho3 := Lib.hid (own_byte hown2)
        have hb3 : Below w0.heap.size w0 w2 := (hb.alloc hsz _).grown hg2 (by simp; omega) (fun g hg => (ho.lt g hg).1)
        have hro3 := Lib.hid (hro.out.trans (RowOn.step hg2 hat2))
        clear hat2
        go_roundw
        case rel =>
          refine ⟨1, by omega, by go_num, ?_, hb3, hro3⟩
          show World.ownsRow _ _ _ _ _ _ _
          have h9 := ho3.out
          rw [← HCS.out, List.append_assoc] at h9
          exact h9
        case measure => simp [intOf]
      · rw [show (3 - ((1 : Nat) : Int)) = 2 by omega]
        obtain ⟨cs, hcs⟩ : ∃ cs, bs ++ [byteI (v / 16777216)] = cs := ⟨_, rfl⟩
        have hlen : cs.length ≤ 1000010 := by rw [← hcs]; simp; omega
        have HCS := Lib.hid hcs
        have ho := hown.out
        rw [show List.take 1 [byteI (v / 16777216), byteI (v / 65536), byteI (v / 256), byteI v] = [byteI (v / 16777216)] from rfl, hcs] at ho
        have hrd := reads_new wr 5 [.int .u8 ((v / 65536) % 256)]
        have hsz := hb.size
        clear hown hcs
        go_wp2_with (at_builtin; refine wpList_append_any (wr.alloc (.cells #[.int .u8 ((v / 65536) % 256)] 5)) rfl (.tmp 14) (.tmp 20) 49 rfl w0.heap.size 5 i0 (.int .u8 0) 1 1 Try.underlying49 hi hz0 hz1 hz2 rfl (by decide) u0 cs.length (Lib.byteCells cs) rfl (ho.alloc _) (wr.heap.size + 1) _ 1 1 [.int .u8 ((v / 65536) % 256)] rfl hrd (by simp [Value.oneCell']) (by unfold maxLen; omega) (by omega) (by simp; omega) ?_; intro v' w2 hown2 hg2 hat2)
        have ho3 := Lib.hid (own_byte hown2)
        have hb3 : Below w0.heap.size w0 w2 := (hb.alloc hsz _).grown hg2 (by simp; omega) (fun g hg => (ho.lt g hg).1)
        have hro3 := Lib.hid (hro.out.trans (RowOn.step hg2 hat2))
        clear hat2
        go_roundw
        case rel =>
          refine ⟨2, by omega, by go_num, ?_, hb3, hro3⟩
          show World.ownsRow _ _ _ _ _ _ _
          have h9 := ho3.out
          rw [← HCS.out, List.append_assoc] at h9
          exact h9
        case measure => simp [intOf]
      · rw [show (3 - ((2 : Nat) : Int)) = 1 by omega]
        obtain ⟨cs, hcs⟩ : ∃ cs, bs ++ [byteI (v / 16777216), byteI (v / 65536)] = cs := ⟨_, rfl⟩
        have hlen : cs.length ≤ 1000010 := by rw [← hcs]; simp; omega
        have HCS := Lib.hid hcs
        have ho := hown.out
        rw [show List.take 2 [byteI (v / 16777216), byteI (v / 65536), byteI (v / 256), byteI v] = [byteI (v / 16777216), byteI (v / 65536)] from rfl, hcs] at ho
        have hrd := reads_new wr 5 [.int .u8 ((v / 256) % 256)]
        have hsz := hb.size
        clear hown hcs
        go_wp2_with (at_builtin; refine wpList_append_any (wr.alloc (.cells #[.int .u8 ((v / 256) % 256)] 5)) rfl (.tmp 14) (.tmp 20) 49 rfl w0.heap.size 5 i0 (.int .u8 0) 1 1 Try.underlying49 hi hz0 hz1 hz2 rfl (by decide) u0 cs.length (Lib.byteCells cs) rfl (ho.alloc _) (wr.heap.size + 1) _ 1 1 [.int .u8 ((v / 256) % 256)] rfl hrd (by simp [Value.oneCell']) (by unfold maxLen; omega) (by omega) (by simp; omega) ?_; intro v' w2 hown2 hg2 hat2)
        have ho3 := Lib.hid (own_byte hown2)
        have hb3 : Below w0.heap.size w0 w2 := (hb.alloc hsz _).grown hg2 (by simp; omega) (fun g hg => (ho.lt g hg).1)
        have hro3 := Lib.hid (hro.out.trans (RowOn.step hg2 hat2))
        clear hat2
        go_roundw
        case rel =>
          refine ⟨3, by omega, by go_num, ?_, hb3, hro3⟩
          show World.ownsRow _ _ _ _ _ _ _
          have h9 := ho3.out
          rw [← HCS.out, List.append_assoc] at h9
          exact h9
        case measure => simp [intOf]
      · rw [show (3 - ((3 : Nat) : Int)) = 0 by omega]
        obtain ⟨cs, hcs⟩ : ∃ cs, bs ++ [byteI (v / 16777216), byteI (v / 65536), byteI (v / 256)] = cs := ⟨_, rfl⟩
        have hlen : cs.length ≤ 1000010 := by rw [← hcs]; simp; omega
        have HCS := Lib.hid hcs
        have ho := hown.out
        rw [show List.take 3 [byteI (v / 16777216), byteI (v / 65536), byteI (v / 256), byteI v] = [byteI (v / 16777216), byteI (v / 65536), byteI (v / 256)] from rfl, hcs] at ho
        have hrd := reads_new wr 5 [.int .u8 (v % 256)]
        have hsz := hb.size
        clear hown hcs
        go_wp2_with (at_builtin; refine wpList_append_any (wr.alloc (.cells #[.int .u8 (v % 256)] 5)) rfl (.tmp 14) (.tmp 20) 49 rfl w0.heap.size 5 i0 (.int .u8 0) 1 1 Try.underlying49 hi hz0 hz1 hz2 rfl (by decide) u0 cs.length (Lib.byteCells cs) rfl (ho.alloc _) (wr.heap.size + 1) _ 1 1 [.int .u8 (v % 256)] rfl hrd (by simp [Value.oneCell']) (by unfold maxLen; omega) (by omega) (by simp; omega) ?_; intro v' w2 hown2 hg2 hat2)
        have ho3 := Lib.hid (own_byte hown2)
        have hb3 : Below w0.heap.size w0 w2 := (hb.alloc hsz _).grown hg2 (by simp; omega) (fun g hg => (ho.lt g hg).1)
        have hro3 := Lib.hid (hro.out.trans (RowOn.step hg2 hat2))
        clear hat2
        go_roundw
        case rel =>
          refine ⟨4, by omega, by go_num, ?_, hb3, hro3⟩
          show World.ownsRow _ _ _ _ _ _ _
          have h9 := ho3.out
          rw [← HCS.out, List.append_assoc] at h9
          exact h9
        case measure => simp [intOf]
      · rw [show (3 - ((4 : Nat) : Int)) = -1 by omega]
        go_wp2_with fail
        go_ret
        exact ⟨_, rfl, hown.out, hb, hro.out⟩
end Go.Proofs.Ytekpdkjkkglcjaa
