/- countersignlaw11.within, known. Condition of known: the table of digits is laid. -/
import Derived.Test.YtolfcpbcccbmmaaGreatDoorUk
set_option linter.unusedVariables false
set_option linter.unusedSimpArgs false
set_option maxRecDepth 20000
namespace Go.Proofs.YtolfcpbcccbmmaaGreatDoor
open Go.RowKit Pc
theorem wpList_store_ur {ops : Array Oper} {rest : List Oper} {op : Oper} {a : Act} (w : World) {Q : Exit → Act → World → Prop} {u : Ur} {A : Option Addr} {c : Nat} (hgd : op.guard = none) (x y : Operand) (ho : op.op = .store 28 x y)
    (hx : a.eval x = .pointer (some ⟨w.heap.size, 0, none⟩)) (hy : a.eval y = .agg (u.arr A c))
    (h : wpList Tryz.prog ops Q rest (a.put op.dst undef) (w.alloc (.cells (u.arr A c) 28))) : wpList Tryz.prog ops Q (op :: rest) a (w.alloc (.cells #[.string ⟨#[]⟩, .string ⟨#[]⟩, .slice none 0 0] 28)) :=
  wpList_store_fresh w hgd 28 x y ho #[.string ⟨#[]⟩, .string ⟨#[]⟩, .slice none 0 0] (u.arr A c) 28 hx hy rfl ur_size (ones3 u A c) h
def knownU : Ur := ⟨[97, 115], [47, 112, 97, 114], [⟨[97], [98]⟩]⟩
theorem ev_uri : uriE [104, 116, 116, 112, 115, 58, 47, 47, 97, 115, 47, 112, 97, 114, 63, 97, 61, 98] = (0, knownU) := by kernel_rfl
theorem ev_bad : uriE [104, 116, 116, 112, 115, 58, 47, 47, 97, 115] = (3, ⟨[], [], []⟩) := by kernel_rfl
theorem ev_split : splitE [47, 120, 63, 99, 61, 100] = (0, [47, 120], [⟨[99], [100]⟩]) := by decide +kernel
theorem ev_may : mayB knownU = true := by decide +kernel
theorem ev_print : printE knownU = [104, 116, 116, 112, 115, 58, 47, 47, 97, 115, 47, 112, 97, 114, 63, 97, 61, 98] := by decide +kernel
theorem ev_target : targetE knownU = [47, 112, 97, 114, 63, 97, 61, 98] := by decide +kernel
set_option maxHeartbeats 8000000 in
theorem known_walk (w : World) (hd : DigOk w) : Calls Tryz.prog 4 #[] w fun e w' => e = .returned (.bool true) ∧ Below w.heap.size w w' := by
  have c1 := Lib.hid (fun w hd => uparse_walk ⟨#[104, 116, 116, 112, 115, 58, 47, 47, 97, 115, 47, 112, 97, 114, 63, 97, 61, 98]⟩ [104, 116, 116, 112, 115, 58, 47, 47, 97, 115, 47, 112, 97, 114, 63, 97, 61, 98] rfl w hd (by decide))
  have c2 := Lib.hid (fun w hd => uparse_walk ⟨#[104, 116, 116, 112, 115, 58, 47, 47, 97, 115]⟩ [104, 116, 116, 112, 115, 58, 47, 47, 97, 115] rfl w hd (by decide))
  have c3 := Lib.hid (fun w hd => usplit_walk ⟨#[47, 120, 63, 99, 61, 100]⟩ [47, 120, 63, 99, 61, 100] rfl w hd (by decide))
  have HD := Lib.hid hd
  clear hd
  go_enter Tryz.func4, Tryz.ntmps4
  go_wp2_with fail
  refine (c1.out _ HD.out).mono ?_
  rintro _ w1 ⟨A, c, rfl, hf, hb⟩
  rw [ev_uri] at hf ⊢
  have HF := Lib.hid (show UrAt w1 A c knownU from ⟨hf, by decide, by decide, by decide⟩)
  have HB1 := Lib.hid (hb.alloc hb.size (.cells (knownU.arr A c) 28))
  have HK1 := Lib.hid (Blk.new w1 28 (knownU.arr A c))
  have HU1 := Lib.hid (HF.out.below ((Below.refl w1.heap.size w1).alloc (Nat.le_refl _) (.cells (knownU.arr A c) 28)))
  have e1 : Hid (knownU.h = [97, 115]) := rfl
  have e2 : Hid (knownU.p = [47, 112, 97, 114]) := rfl
  have e3 : Hid (knownU.q.length = 1) := rfl
  have m1 := Lib.hid ev_may
  have m2 := Lib.hid ev_print
  have m3 := Lib.hid ev_target
  generalize knownU = u at *
  clear hf hb
  go_wp2_with (refine wpList_store_ur w1 rfl _ _ rfl rfl rfl ?_)
  refine (c2.out _ (HD.out.below HB1.out)).mono ?_
  rintro _ w2 ⟨A2, c2', rfl, _, hbn⟩
  rw [ev_bad]
  have HB2 := Lib.hid (below_next HB1.out hbn)
  have HK2 := Lib.hid (HK1.out.below hbn HK1.out.lt)
  have HU2 := Lib.hid (HU1.out.below hbn)
  have HB3 := Lib.hid (HB2.out.alloc HB2.out.size (.cells ((Ur.mk [] [] []).arr A2 c2') 28))
  have HK3 := Lib.hid (HK2.out.alloc (.cells ((Ur.mk [] [] []).arr A2 c2') 28))
  have HU3 := Lib.hid (HU2.out.below ((Below.refl w2.heap.size w2).alloc (Nat.le_refl _) (.cells ((Ur.mk [] [] []).arr A2 c2') 28)))
  clear hbn HB1 HK1 HU1 HB2 HK2 HU2
  go_wp2_with (refine wpList_store_ur w2 rfl _ _ rfl rfl rfl ?_)
  refine (c3.out _ (HD.out.below HB3.out)).mono ?_
  rintro _ w4 ⟨v, rfl, hown, hbn⟩
  rw [ev_split] at hown ⊢
  obtain ⟨A4, c4, rfl, _⟩ := FsAt.own hown (by decide)
  have HB4 := Lib.hid (below_next HB3.out hbn)
  have HK4 := Lib.hid (HK3.out.below hbn HK3.out.lt)
  have HU4 := Lib.hid (HU3.out.below hbn)
  have hc0 : w4.cell? ⟨w1.heap.size, 0, none⟩ = some (.string ⟨#[97, 115]⟩) := by
    rw [(boxU HK4.out).2.1, e1.out]
  have hc1 : w4.cell? ⟨w1.heap.size, 1, none⟩ = some (.string ⟨#[47, 112, 97, 114]⟩) := by
    rw [(boxU HK4.out).2.2.1, e2.out]
  have hc2 : w4.cell? ⟨w1.heap.size, 2, none⟩ = some (.slice A 1 c) := by
    rw [(boxU HK4.out).2.2.2, e3.out]
  have cp := Lib.hid (printu_walk u A c w4 HU4.out (by rw [e3.out]; decide) (HD.out.below HB4.out))
  rw [m2.out, show u.arr A c = #[.string ⟨#[97, 115]⟩, .string ⟨#[47, 112, 97, 114]⟩, .slice A 1 c] by rw [Ur.arr, e1.out, e2.out, e3.out]] at cp
  clear hbn hown HB3 HK3 HU3
  go_wp2_with fail
  refine cp.out.mono ?_
  rintro _ w5 ⟨rfl, hbn⟩
  have HB5 := Lib.hid (below_next HB4.out hbn)
  have HK5 := Lib.hid (HK4.out.below hbn HK4.out.lt)
  have HU5 := Lib.hid (HU4.out.below hbn)
  have ct := Lib.hid (ttarget_walk u A c w5 HU5.out (by rw [e3.out]; decide) (HD.out.below HB5.out))
  rw [m3.out, show u.arr A c = #[.string ⟨#[97, 115]⟩, .string ⟨#[47, 112, 97, 114]⟩, .slice A 1 c] by rw [Ur.arr, e1.out, e2.out, e3.out]] at ct
  clear hbn HB4 HK4 HU4 cp hc0 hc1 hc2
  have hc0 : w5.cell? ⟨w1.heap.size, 0, none⟩ = some (.string ⟨#[97, 115]⟩) := by
    rw [(boxU HK5.out).2.1, e1.out]
  have hc1 : w5.cell? ⟨w1.heap.size, 1, none⟩ = some (.string ⟨#[47, 112, 97, 114]⟩) := by
    rw [(boxU HK5.out).2.2.1, e2.out]
  have hc2 : w5.cell? ⟨w1.heap.size, 2, none⟩ = some (.slice A 1 c) := by
    rw [(boxU HK5.out).2.2.2, e3.out]
  go_wp2_with fail
  refine ct.out.mono ?_
  rintro _ w6 ⟨rfl, hbn⟩
  have HB6 := Lib.hid (below_next HB5.out hbn)
  have HK6 := Lib.hid (HK5.out.below hbn HK5.out.lt)
  have HU6 := Lib.hid (HU5.out.below hbn)
  have cm := Lib.hid (may_walk u A c w6 HU6.out (HD.out.below HB6.out) (by rw [e3.out]; decide))
  rw [m1.out, show u.arr A c = #[.string ⟨#[97, 115]⟩, .string ⟨#[47, 112, 97, 114]⟩, .slice A 1 c] by rw [Ur.arr, e1.out, e2.out, e3.out]] at cm
  clear hbn HB5 HK5 HU5 ct hc0 hc1 hc2
  have hc0 : w6.cell? ⟨w1.heap.size, 0, none⟩ = some (.string ⟨#[97, 115]⟩) := by
    rw [(boxU HK6.out).2.1, e1.out]
  have hc1 : w6.cell? ⟨w1.heap.size, 1, none⟩ = some (.string ⟨#[47, 112, 97, 114]⟩) := by
    rw [(boxU HK6.out).2.2.1, e2.out]
  have hc2 : w6.cell? ⟨w1.heap.size, 2, none⟩ = some (.slice A 1 c) := by
    rw [(boxU HK6.out).2.2.2, e3.out]
  go_wp2_with fail
  refine cm.out.mono ?_
  rintro _ w7 ⟨rfl, hbn⟩
  have HB7 := Lib.hid (below_next HB6.out hbn)
  clear hbn
  go_wp2_with fail
  go_ret
  exact ⟨rfl, HB7.out⟩
end Go.Proofs.YtolfcpbcccbmmaaGreatDoor
