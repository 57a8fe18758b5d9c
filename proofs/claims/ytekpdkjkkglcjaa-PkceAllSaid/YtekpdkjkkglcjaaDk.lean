import Derived.Test.YtekpdkjkkglcjaaDi
set_option linter.unusedVariables false
set_option linter.unusedSimpArgs false
set_option maxRecDepth 20000
namespace Go.Proofs.Ytekpdkjkkglcjaa
open Go.RowKit
def byteI (x : Int) : UInt8 := UInt8.ofNat (x % 256).toNat
theorem byte_cell (x : Int) : Lib.byteCells [byteI x] = [.int .u8 (x % 256)] := by
  have h0 := Int.emod_nonneg x (show (256 : Int) ≠ 0 by decide)
  have h1 := Int.emod_lt_of_pos x (show (0 : Int) < 256 by decide)
  have h2 : (byteI x).toNat = (x % 256).toNat := by
    rw [byteI, UInt8.toNat_ofNat']
    exact Nat.mod_eq_of_lt (by omega)
  simp only [Lib.byteCells, List.map_cons, List.map_nil, h2]
  rw [Int.toNat_of_nonneg h0]
/-- a number in two or four bytes, the highest first -/
def numB (v : Int) (n : Int) : List UInt8 := if n = 2 then [byteI (v / 256), byteI v] else [byteI (v / 16777216), byteI (v / 65536), byteI (v / 256), byteI v]
theorem info_u8 : (Try.prog.info? 5).map (fun i => (i.zero, i.size, i.bytes)) = some (some (.int .u8 0), 1, 1) := by kernel_rfl
theorem row_trans {a b c : World} {row : Option Nat} (h : a.grownBy b row) (k : b.grownBy c row) : a.grownBy c row :=
  ⟨k.os.trans h.os, k.tape.trans h.tape, k.output.trans h.output, Nat.le_trans h.size k.size, fun i hi hne => (k.block i (Nat.lt_of_lt_of_le hi h.size) hne).trans (h.block i hi hne)⟩
/-- from w to w' at most the row of v0 was turned; v1 owns that row, or a newer one -/
def RowOn (w w' : World) (v0 v1 : Value) : Prop := w.grownBy w' v0.ownBlock ∧ (v1.ownBlock = v0.ownBlock ∨ ∃ q, v1.ownBlock = some q ∧ w.heap.size ≤ q)
theorem RowOn.refl (w : World) (v : Value) : RowOn w w v v := ⟨⟨rfl, rfl, rfl, Nat.le_refl _, fun _ _ _ => rfl⟩, .inl rfl⟩
theorem RowOn.trans {w w1 w2 : World} {v0 v1 v2 : Value} (h : RowOn w w1 v0 v1) (k : RowOn w1 w2 v1 v2) : RowOn w w2 v0 v2 := by
  obtain ⟨h1, h2⟩ := h
  obtain ⟨k1, k2⟩ := k
  refine ⟨⟨k1.os.trans h1.os, k1.tape.trans h1.tape, k1.output.trans h1.output, Nat.le_trans h1.size k1.size, fun i hi hne => (k1.block i (Nat.lt_of_lt_of_le hi h1.size) (fun e => ?_)).trans (h1.block i hi hne)⟩, ?_⟩
  · rcases h2 with h2 | ⟨q, h2, hq⟩
    · exact hne (e.trans h2)
    · rw [h2] at e
      injection e with e
      omega
  · have hs := h1.size
    rcases k2 with k2 | ⟨q, k2, hq⟩
    · rcases h2 with h2 | ⟨q, h2, hq⟩
      · exact .inl (k2.trans h2)
      · exact .inr ⟨q, k2.trans h2, hq⟩
    · exact .inr ⟨q, k2, by omega⟩
theorem RowOn.alloc {w w' : World} {v0 v1 : Value} (h : RowOn w w' v0 v1) (o : Obj) : RowOn w (w'.alloc o) v0 v1 := ⟨row_trans h.1 (World.grownBy_alloc _ _ _), h.2⟩
theorem RowOn.step {w : World} {o : Obj} {w2 : World} {v0 v1 : Value} (h : (w.alloc o).grownBy w2 v0.ownBlock) (k : v1.ownBlock = v0.ownBlock ∨ v1.ownBlock = some (w.alloc o).heap.size) : RowOn w w2 v0 v1 := by
  refine ⟨row_trans (World.grownBy_alloc _ _ _) h, ?_⟩
  rcases k with k | k
  · exact .inl k
  · exact .inr ⟨_, k, by simp⟩
def OwnB (w0 w : World) (vb : Value) (bs : List UInt8) (e : Ending) (w' : World) : Prop := ∃ v, e = .returned v ∧ w'.ownsRow w0.heap.size 5 1 v bs.length (Lib.byteCells bs) ∧ Below w0.heap.size w0 w' ∧ RowOn w w' vb v
theorem byteCells_append (a b : List UInt8) : Lib.byteCells (a ++ b) = Lib.byteCells a ++ Lib.byteCells b := by simp [Lib.byteCells]
theorem own_byte {w : World} {B : Nat} {T : TypeId} {v : Value} {bs : List UInt8} {x : Int} (h : w.ownsRow B T 1 v (bs.length + 1) (Lib.byteCells bs ++ [.int .u8 (x % 256)])) : w.ownsRow B T 1 v (bs ++ [byteI x]).length (Lib.byteCells (bs ++ [byteI x])) := by
  rw [byteCells_append, byte_cell, List.length_append]
  exact h
set_option maxHeartbeats 4000000 in
theorem number_put (w0 : World) (bs : List UInt8) (vb : Value) (v : Int) (n : Int) (w : World) (hn : n = 2 ∨ n = 4) (hl : bs.length ≤ 1000000) (hown : w.ownsRow w0.heap.size 5 1 vb bs.length (Lib.byteCells bs)) (hb : Below w0.heap.size w0 w) :
    Calls Try.prog 63 #[vb, .int .i64 v, .int .i64 n] w (OwnB w0 w vb (bs ++ numB v n)) := by
  obtain ⟨i0, hi, hz0, hz1, hz2⟩ := info_parts4 info_u8
  have HO := Lib.hid hown
  clear hown
  rcases hn with rfl | rfl
  · rw [show numB v 2 = [byteI (v / 256), byteI v] from rfl]
    go_enter Try.func63, Try.ntmps63
    go_wp2_with fail
    go_loopw [0, 9] (fun bv iv wr => ∃ i : Nat, i ≤ 2 ∧ iv = .int .i64 i ∧ Hid (wr.ownsRow w0.heap.size 5 1 bv (bs ++ ([byteI (v / 256), byteI v]).take i).length (Lib.byteCells (bs ++ ([byteI (v / 256), byteI v]).take i))) ∧ Below w0.heap.size w0 wr ∧ Hid (RowOn w wr vb bv)) (fun _ iv _ => 2 - (intOf iv).toNat)
    case atStart => exact ⟨0, by omega, rfl, by show World.ownsRow _ _ _ _ _ _ _; rw [List.take_zero, List.append_nil]; exact HO.out, hb, RowOn.refl _ _⟩
    case round =>
      clear hb
      obtain ⟨i, hi2, rfl, hown, hb, hro⟩ := hrel
      rcases show i = 0 ∨ i = 1 ∨ i = 2 by omega with rfl | rfl | rfl
      · obtain ⟨cs, hcs⟩ : ∃ cs, bs ++ [] = cs := ⟨_, rfl⟩
        have hlen : cs.length ≤ 1000010 := by rw [← hcs]; simp; omega
        have HCS := Lib.hid hcs
        have ho := hown.out
        rw [show List.take 0 [byteI (v / 256), byteI v] = [] from rfl, hcs] at ho
        have hrd := reads_new wr 5 [.int .u8 ((v / 256) % 256)]
        have hsz := hb.size
        clear hown hcs
        go_wp2_with (at_builtin; refine wpList_append_any (wr.alloc (.cells #[.int .u8 ((v / 256) % 256)] 5)) rfl (.tmp 12) (.tmp 21) 49 rfl w0.heap.size 5 i0 (.int .u8 0) 1 1 Try.underlying49 hi hz0 hz1 hz2 rfl (by decide) u0 cs.length (Lib.byteCells cs) rfl (ho.alloc _) (wr.heap.size + 1) _ 1 1 [.int .u8 ((v / 256) % 256)] rfl hrd (by simp [Value.oneCell']) (by unfold maxLen; omega) (by omega) (by simp; omega) ?_; intro v' w2 hown2 hg2 hat2)
        have ho3 := Lib.hid (own_byte hown2)
        have hb3 : Below w0.heap.size w0 w2 := (hb.alloc hsz _).grown hg2 (by simp; omega) (fun g hg => (ho.lt g hg).1)
        have hro3 := Lib.hid (hro.out.trans (RowOn.step hg2 hat2))
        clear hat2
        go_roundw
        case rel =>
          refine ⟨1, by omega, by go_num, ?_, hb3, hro3⟩
          show World.ownsRow _ _ _ _ _ _ _
          have h9 := ho3.out
          rw [← HCS.out, List.append_assoc] at h9
          exact h9
        case measure => simp [intOf]
      · obtain ⟨cs, hcs⟩ : ∃ cs, bs ++ [byteI (v / 256)] = cs := ⟨_, rfl⟩
        have hlen : cs.length ≤ 1000010 := by rw [← hcs]; simp; omega
        have HCS := Lib.hid hcs
        have ho := hown.out
        rw [show List.take 1 [byteI (v / 256), byteI v] = [byteI (v / 256)] from rfl, hcs] at ho
        have hrd := reads_new wr 5 [.int .u8 ((v) % 256)]
        have hsz := hb.size
        clear hown hcs
        go_wp2_with (at_builtin; refine wpList_append_any (wr.alloc (.cells #[.int .u8 ((v) % 256)] 5)) rfl (.tmp 12) (.tmp 21) 49 rfl w0.heap.size 5 i0 (.int .u8 0) 1 1 Try.underlying49 hi hz0 hz1 hz2 rfl (by decide) u0 cs.length (Lib.byteCells cs) rfl (ho.alloc _) (wr.heap.size + 1) _ 1 1 [.int .u8 ((v) % 256)] rfl hrd (by simp [Value.oneCell']) (by unfold maxLen; omega) (by omega) (by simp; omega) ?_; intro v' w2 hown2 hg2 hat2)
        have ho3 := Lib.hid (own_byte hown2)
        have hb3 : Below w0.heap.size w0 w2 := (hb.alloc hsz _).grown hg2 (by simp; omega) (fun g hg => (ho.lt g hg).1)
        have hro3 := Lib.hid (hro.out.trans (RowOn.step hg2 hat2))
        clear hat2
        go_roundw
        case rel =>
          refine ⟨2, by omega, by go_num, ?_, hb3, hro3⟩
          show World.ownsRow _ _ _ _ _ _ _
          have h9 := ho3.out
          rw [← HCS.out, List.append_assoc] at h9
          exact h9
        case measure => simp [intOf]
      · go_wp2_with fail
        go_ret
        exact ⟨_, rfl, hown.out, hb, hro.out⟩
  · rw [show numB v 4 = [byteI (v / 16777216), byteI (v / 65536), byteI (v / 256), byteI v] from rfl]
    go_enter Try.func63, Try.ntmps63
    go_wp2_with fail
    go_loopw [0, 9] (fun bv iv wr => ∃ i : Nat, i ≤ 4 ∧ iv = .int .i64 i ∧ Hid (wr.ownsRow w0.heap.size 5 1 bv (bs ++ ([byteI (v / 16777216), byteI (v / 65536), byteI (v / 256), byteI v]).take i).length (Lib.byteCells (bs ++ ([byteI (v / 16777216), byteI (v / 65536), byteI (v / 256), byteI v]).take i))) ∧ Below w0.heap.size w0 wr ∧ Hid (RowOn w wr vb bv)) (fun _ iv _ => 4 - (intOf iv).toNat)
    case atStart => exact ⟨0, by omega, rfl, by show World.ownsRow _ _ _ _ _ _ _; rw [List.take_zero, List.append_nil]; exact HO.out, hb, RowOn.refl _ _⟩
    case round =>
      clear hb
      obtain ⟨i, hi2, rfl, hown, hb, hro⟩ := hrel
      rcases show i = 0 ∨ i = 1 ∨ i = 2 ∨ i = 3 ∨ i = 4 by omega with rfl | rfl | rfl | rfl | rfl
      · obtain ⟨cs, hcs⟩ : ∃ cs, bs ++ [] = cs := ⟨_, rfl⟩
        have hlen : cs.length ≤ 1000010 := by rw [← hcs]; simp; omega
        have HCS := Lib.hid hcs
        have ho := hown.out
        rw [show List.take 0 [byteI (v / 16777216), byteI (v / 65536), byteI (v / 256), byteI v] = [] from rfl, hcs] at ho
        have hrd := reads_new wr 5 [.int .u8 ((v / 16777216) % 256)]
        have hsz := hb.size
        clear hown hcs
        go_wp2_with (at_builtin; refine wpList_append_any (wr.alloc (.cells #[.int .u8 ((v / 16777216) % 256)] 5)) rfl (.tmp 12) (.tmp 21) 49 rfl w0.heap.size 5 i0 (.int .u8 0) 1 1 Try.underlying49 hi hz0 hz1 hz2 rfl (by decide) u0 cs.length (Lib.byteCells cs) rfl (ho.alloc _) (wr.heap.size + 1) _ 1 1 [.int .u8 ((v / 16777216) % 256)] rfl hrd (by simp [Value.oneCell']) (by unfold maxLen; omega) (by omega) (by simp; omega) ?_; intro v' w2 hown2 hg2 hat2)
        have ho3 := Lib.hid (own_byte hown2)
        have hb3 : Below w0.heap.size w0 w2 := (hb.alloc hsz _).grown hg2 (by simp; omega) (fun g hg => (ho.lt g hg).1)
        have hro3 := Lib.hid (hro.out.trans (RowOn.step hg2 hat2))
        clear hat2
        go_roundw
        case rel =>
          refine ⟨1, by omega, by go_num, ?_, hb3, hro3⟩
          show World.ownsRow _ _ _ _ _ _ _
          have h9 := ho3.out
          rw [← HCS.out, List.append_assoc] at h9
          exact h9
        case measure => simp [intOf]
      · obtain ⟨cs, hcs⟩ : ∃ cs, bs ++ [byteI (v / 16777216)] = cs := ⟨_, rfl⟩
        have hlen : cs.length ≤ 1000010 := by rw [← hcs]; simp; omega
        have HCS := Lib.hid hcs
        have ho := hown.out
        rw [show List.take 1 [byteI (v / 16777216), byteI (v / 65536), byteI (v / 256), byteI v] = [byteI (v / 16777216)] from rfl, hcs] at ho
        have hrd := reads_new wr 5 [.int .u8 ((v / 65536) % 256)]
        have hsz := hb.size
        clear hown hcs
        go_wp2_with (at_builtin; refine wpList_append_any (wr.alloc (.cells #[.int .u8 ((v / 65536) % 256)] 5)) rfl (.tmp 12) (.tmp 21) 49 rfl w0.heap.size 5 i0 (.int .u8 0) 1 1 Try.underlying49 hi hz0 hz1 hz2 rfl (by decide) u0 cs.length (Lib.byteCells cs) rfl (ho.alloc _) (wr.heap.size + 1) _ 1 1 [.int .u8 ((v / 65536) % 256)] rfl hrd (by simp [Value.oneCell']) (by unfold maxLen; omega) (by omega) (by simp; omega) ?_; intro v' w2 hown2 hg2 hat2)
        have ho3 := Lib.hid (own_byte hown2)
        have hb3 : Below w0.heap.size w0 w2 := (hb.alloc hsz _).grown hg2 (by simp; omega) (fun g hg => (ho.lt g hg).1)
        have hro3 := Lib.hid (hro.out.trans (RowOn.step hg2 hat2))
        clear hat2
        go_roundw
        case rel =>
          refine ⟨2, by omega, by go_num, ?_, hb3, hro3⟩
          show World.ownsRow _ _ _ _ _ _ _
          have h9 := ho3.out
          rw [← HCS.out, List.append_assoc] at h9
          exact h9
        case measure => simp [intOf]
      · obtain ⟨cs, hcs⟩ : ∃ cs, bs ++ [byteI (v / 16777216), byteI (v / 65536)] = cs := ⟨_, rfl⟩
        have hlen : cs.length ≤ 1000010 := by rw [← hcs]; simp; omega
        have HCS := Lib.hid hcs
        have ho := hown.out
        rw [show List.take 2 [byteI (v / 16777216), byteI (v / 65536), byteI (v / 256), byteI v] = [byteI (v / 16777216), byteI (v / 65536)] from rfl, hcs] at ho
        have hrd := reads_new wr 5 [.int .u8 ((v / 256) % 256)]
        have hsz := hb.size
        clear hown hcs
        go_wp2_with (at_builtin; refine wpList_append_any (wr.alloc (.cells #[.int .u8 ((v / 256) % 256)] 5)) rfl (.tmp 12) (.tmp 21) 49 rfl w0.heap.size 5 i0 (.int .u8 0) 1 1 Try.underlying49 hi hz0 hz1 hz2 rfl (by decide) u0 cs.length (Lib.byteCells cs) rfl (ho.alloc _) (wr.heap.size + 1) _ 1 1 [.int .u8 ((v / 256) % 256)] rfl hrd (by simp [Value.oneCell']) (by unfold maxLen; omega) (by omega) (by simp; omega) ?_; intro v' w2 hown2 hg2 hat2)
        have ho3 := Lib.hid (own_byte hown2)
        have hb3 : Below w0.heap.size w0 w2 := (hb.alloc hsz _).grown hg2 (by simp; omega) (fun g hg => (ho.lt g hg).1)
        have hro3 := Lib.hid (hro.out.trans (RowOn.step hg2 hat2))
        clear hat2
        go_roundw
        case rel =>
          refine ⟨3, by omega, by go_num, ?_, hb3, hro3⟩
          show World.ownsRow _ _ _ _ _ _ _
          have h9 := ho3.out
          rw [← HCS.out, List.append_assoc] at h9
          exact h9
        case measure => simp [intOf]
      · obtain ⟨cs, hcs⟩ : ∃ cs, bs ++ [byteI (v / 16777216), byteI (v / 65536), byteI (v / 256)] = cs := ⟨_, rfl⟩
        have hlen : cs.length ≤ 1000010 := by rw [← hcs]; simp; omega
        have HCS := Lib.hid hcs
        have ho := hown.out
        rw [show List.take 3 [byteI (v / 16777216), byteI (v / 65536), byteI (v / 256), byteI v] = [byteI (v / 16777216), byteI (v / 65536), byteI (v / 256)] from rfl, hcs] at ho
        have hrd := reads_new wr 5 [.int .u8 ((v) % 256)]
        have hsz := hb.size
        clear hown hcs
        go_wp2_with (at_builtin; refine wpList_append_any (wr.alloc (.cells #[.int .u8 ((v) % 256)] 5)) rfl (.tmp 12) (.tmp 21) 49 rfl w0.heap.size 5 i0 (.int .u8 0) 1 1 Try.underlying49 hi hz0 hz1 hz2 rfl (by decide) u0 cs.length (Lib.byteCells cs) rfl (ho.alloc _) (wr.heap.size + 1) _ 1 1 [.int .u8 ((v) % 256)] rfl hrd (by simp [Value.oneCell']) (by unfold maxLen; omega) (by omega) (by simp; omega) ?_; intro v' w2 hown2 hg2 hat2)
        have ho3 := Lib.hid (own_byte hown2)
        have hb3 : Below w0.heap.size w0 w2 := (hb.alloc hsz _).grown hg2 (by simp; omega) (fun g hg => (ho.lt g hg).1)
        have hro3 := Lib.hid (hro.out.trans (RowOn.step hg2 hat2))
        clear hat2
        go_roundw
        case rel =>
          refine ⟨4, by omega, by go_num, ?_, hb3, hro3⟩
          show World.ownsRow _ _ _ _ _ _ _
          have h9 := ho3.out
          rw [← HCS.out, List.append_assoc] at h9
          exact h9
        case measure => simp [intOf]
      · go_wp2_with fail
        go_ret
        exact ⟨_, rfl, hown.out, hb, hro.out⟩
end Go.Proofs.Ytekpdkjkkglcjaa
