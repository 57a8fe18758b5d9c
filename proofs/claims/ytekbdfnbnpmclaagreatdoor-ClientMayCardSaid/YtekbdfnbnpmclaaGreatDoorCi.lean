/- countersignlaw17.within, known; ClientShows. Condition: the table of digits is laid. -/
import Derived.Test.YtekbdfnbnpmclaaGreatDoorCf
set_option linter.unusedVariables false
set_option linter.unusedSimpArgs false
set_option maxRecDepth 20000
namespace Go.Proofs.YtekbdfnbnpmclaaGreatDoor
open Go.RowKit Pc
theorem within17_walk (z n : Int) (w : World) (hn : 1 ≤ n) (hn2 : n ≤ 9223372036854775807) (hz : -9223372036854775808 ≤ z ∧ z ≤ 9223372036854775807) :
    Calls Tryz.prog 9 #[.int .i64 z, .int .i64 n] w fun e w' => e = .returned (.int .i64 (z % n)) ∧ w = w' := by
  have h0 := Int.emod_nonneg z (show n ≠ 0 by omega)
  have h1 := Int.emod_lt_of_pos z (show 0 < n by omega)
  obtain ⟨hz1, hz2⟩ := hz
  by_cases h : 0 ≤ z
  · go_enter Tryz.func9, Tryz.ntmps9
    go_wp2_with fail
    go_ret
    exact ⟨rfl, rfl⟩
  · obtain ⟨r, er⟩ : ∃ r, z.tmod n = r := ⟨_, rfl⟩
    have hr : r = z % n ∧ r = 0 ∨ r = z % n - n ∧ r < 0 := by
      rw [← er, Int.tmod_eq_emod]
      by_cases hd : n ∣ z
      · left
        have := Int.emod_eq_zero_of_dvd hd
        simp [hd]; omega
      · right
        simp only [hd, or_false, h, if_false]
        omega
    rcases hr with ⟨e1, e2⟩ | ⟨e1, e2⟩
    · have E := Lib.hid e1
      have hr0 : ¬ r < 0 := by omega
      have hz0 : z % n = 0 := by omega
      have hr0' : r = 0 := e2
      subst hr0'
      have HZ := Lib.hid hz0
      clear e1 hz0 h0 h1 e2
      go_enter Tryz.func9, Tryz.ntmps9
      go_wp2_with fail
      go_ret
      exact ⟨by rw [HZ.out]; rfl, rfl⟩
    · have E : Hid (r + n = z % n) := by show _ = _; omega
      have hr1 : -n ≤ r := by omega
      clear e1 h0 h1
      go_enter Tryz.func9, Tryz.ntmps9
      go_wp2_with fail
      go_ret
      exact ⟨by rw [← E.out]; rfl, rfl⟩
theorem reads_one {W : World} {b : Nat} {t : TypeId} {us : List Value} (h : Blk W b t us.toArray) (n size : Nat) (hn : us.length = n * size) (h0 : 0 < us.length) : Reads W W.heap.size size (some ⟨b, 0, none⟩) n us := by
  refine ⟨by rw [hn, Nat.mul_comm], fun _ => ⟨⟨b, 0, none⟩, rfl, h.lt, fun j u hu => ?_⟩⟩
  rw [show ((⟨b, 0, none⟩ : Addr).add j) = ⟨b, j, none⟩ by unfold Addr.add; split <;> simp_all, h.cell j]
  simpa using hu
theorem clsAt_one {W : World} {b : Nat} {t : TypeId} {f : Cl} (h : Blk W b t f.arr) (hs : StrsAt W f.ra f.rc f.red) : ClsAt W (some ⟨b, 0, none⟩) 1 [f] :=
  ⟨Nat.le_refl _, by have := reads_one (us := cCells [f]) (by rw [show (cCells [f]).toArray = f.arr by simp [cCells, Cl.arr]]; exact h) 1 4 (by rfl) (by simp [cCells_len]); exact this, fun x hx => by rw [List.mem_singleton] at hx; rw [hx]; exact hs⟩
theorem clsAt_two {W : World} {b : Nat} {t : TypeId} {f : Cl} (h : Blk W b t (f.arr ++ f.arr)) (hs : StrsAt W f.ra f.rc f.red) : ClsAt W (some ⟨b, 0, none⟩) 2 [f, f] :=
  ⟨Nat.le_refl _, by have := reads_one (us := cCells [f, f]) (by rw [show (cCells [f, f]).toArray = f.arr ++ f.arr by simp [cCells, Cl.arr]]; exact h) 2 4 (by rfl) (by simp [cCells_len]); exact this, fun x hx => by simp at hx; rw [hx]; exact hs⟩
theorem strsAt_one {W : World} {b : Nat} {t : TypeId} {p : List UInt8} (h : Blk W b t #[.string ⟨p.toArray⟩]) : StrsAt W (some ⟨b, 0, none⟩) 1 [p] :=
  ⟨Nat.le_refl _, by have := reads_one (us := strVs [p]) (by simpa [strVs, strV] using h) 1 1 (by rfl) (by simp [strVs]); exact this⟩
def redL17 : List UInt8 := [104, 116, 116, 112, 115, 58, 47, 47, 112, 47, 99, 98]
def knC (n : Nat) : Cl := ⟨[112], 0, [redL17], [97], some ⟨n, 0, none⟩, 1⟩
theorem kn_auth1 (n : Nat) : authV (authE [knC n] [112] []) = .tuple #[.int .i64 1, .int .i64 0] := rfl
theorem kn_auth2 (n : Nat) : authV (authE [knC n] [112] [120]) = .tuple #[.int .i64 0, .int .i64 9] := rfl
theorem kn_find (n : Nat) : findV [112] [knC n] = .tuple #[.int .i64 1, .bool true] := rfl
theorem kn_lead : leadB redL17 = true := by decide +kernel
theorem kn_scope : S16.scopeE (splitC 32 [97]) = 0 := by decide +kernel
theorem kn_word : S16.wordB [112] = true := by decide +kernel
theorem kn_one (n : Nat) : oneB (knC n) = true := by
  have h1 : redB [redL17] = true := by rw [redB, redsB, redsB, kn_lead]; rfl
  show (S16.wordB [112] && (decide ((0 : Int) ≤ 0) && (decide ((0 : Int) ≤ 1073741824) && (redB [redL17] && decide (S16.scopeE (splitC 32 [97]) = 0))))) = true
  rw [kn_word, h1, kn_scope]
  rfl
theorem kn_may1 (n : Nat) : clMayB [knC n] = true := by
  rw [clMayB, maysB, maysB, kn_one]
  rfl
theorem kn_may2 (n : Nat) : clMayB [knC n, knC n] = false := by
  rw [clMayB, maysB, maysB, kn_one]
  rfl
theorem kn_short (n : Nat) : CShort (knC n) := ⟨⟨by show (1 : Nat) ≤ 5000; omega, fun p hp => by rw [show (knC n).red = [redL17] from rfl, List.mem_singleton] at hp; rw [hp]; show (12 : Nat) ≤ 10000; omega⟩, by show (1 : Nat) ≤ 10000; omega, by show (1 : Nat) ≤ 10000; omega⟩
theorem kn_knows (n : Nat) : (knC n).red.contains redL17 = true := rfl
set_option maxHeartbeats 4000000 in
theorem known17_walk (w : World) (hd : DigOk w) : Calls Tryz.prog 4 #[] w fun e w' => e = .returned (.bool true) ∧ Below w.heap.size w w' := by
  have hb1 := (Below.refl w.heap.size w).alloc (Nat.le_refl _) (.cells #[.string ⟨#[104, 116, 116, 112, 115, 58, 47, 47, 112, 47, 99, 98]⟩] 9)
  have hk1 := Blk.new w 9 #[.string ⟨#[104, 116, 116, 112, 115, 58, 47, 47, 112, 47, 99, 98]⟩]
  have hs1 : (w.alloc (.cells #[.string ⟨#[104, 116, 116, 112, 115, 58, 47, 47, 112, 47, 99, 98]⟩] 9)).heap.size = w.heap.size + 1 := by simp
  generalize hW1 : w.alloc (.cells #[.string ⟨#[104, 116, 116, 112, 115, 58, 47, 47, 112, 47, 99, 98]⟩] 9) = W1 at hb1 hk1 hs1
  have hb2 := hb1.alloc hb1.size (.cells (knC w.heap.size).arr 31)
  have hk2 := Blk.new W1 31 (knC w.heap.size).arr
  have hk1' := hk1.alloc (.cells (knC w.heap.size).arr 31)
  have hs2 : (W1.alloc (.cells (knC w.heap.size).arr 31)).heap.size = w.heap.size + 2 := by simp [hs1]
  rw [hs1] at hk2
  generalize hW2 : W1.alloc (.cells (knC w.heap.size).arr 31) = W2 at hb2 hk2 hk1' hs2
  have HB := Lib.hid hb2
  have HK := Lib.hid hk2
  have HK1 := Lib.hid hk1'
  have HS := Lib.hid (show StrsAt W2 (knC w.heap.size).ra (knC w.heap.size).rc (knC w.heap.size).red from strsAt_one hk1')
  have HW1 := Lib.hid hW1
  have HW2 := Lib.hid hW2
  have HD := Lib.hid hd
  have ca := Lib.hid (fun W s A c h => auth_walk [knC w.heap.size] [112] s A c W h (by show (1 : Nat) ≤ 1000000; omega))
  clear hb1 hb2 hk1 hk2 hk1' hW1 hW2 hd
  go_enter Tryz.func4, Tryz.ntmps4
  go_upto_region 2 with (refine wpList_store_cl (w.alloc (.cells #[.string ⟨#[104, 116, 116, 112, 115, 58, 47, 47, 112, 47, 99, 98]⟩] 9)) (f := knC w.heap.size) rfl _ _ rfl (by simp [Act.eval]) rfl ?_)
  rw [HW1.out, HW2.out]
  clear HW1 HW2 hs1 hs2 HK1
  have hc0 : W2.cell? ⟨w.heap.size + 1, 0, none⟩ = some (.string ⟨#[112]⟩) := (boxC HK.out).1
  have hc1 : W2.cell? ⟨w.heap.size + 1, 1, none⟩ = some (.int .i64 0) := (boxC HK.out).2.1
  have hc2 : W2.cell? ⟨w.heap.size + 1, 2, none⟩ = some (.slice (some ⟨w.heap.size, 0, none⟩) 1 1) := (boxC HK.out).2.2.1
  have hc3 : W2.cell? ⟨w.heap.size + 1, 3, none⟩ = some (.string ⟨#[97]⟩) := (boxC HK.out).2.2.2
  have hgl := HK.out.lt
  have hA := clsAt_one (Blk.new W2 31 (knC w.heap.size).arr) (HS.out.below ((Below.refl _ _).alloc (Nat.le_refl _) (.cells (knC w.heap.size).arr 31)))
  have HA := Lib.hid hA
  have hbx := HB.out.alloc HB.out.size (.cells (knC w.heap.size).arr 31)
  have HBx := Lib.hid hbx
  have hkx := HK.out.alloc (.cells (knC w.heap.size).arr 31)
  have HKx := Lib.hid hkx
  have hsx := HS.out.below ((Below.refl _ _).alloc (Nat.le_refl _) (.cells (knC w.heap.size).arr 31))
  have HSx := Lib.hid hsx
  have hdx := HD.out.below hbx
  have HDx := Lib.hid hdx
  clear hA hbx hkx hsx hdx
  go_wp2_with fail
  refine (ca.out _ [] _ 1 HA.out).mono ?_
  rintro _ w3 ⟨rfl, hbn⟩
  replace HB := Lib.hid (below_next HBx.out hbn)
  replace HK := Lib.hid (HKx.out.below hbn HKx.out.lt)
  replace HS := Lib.hid (HSx.out.below hbn)
  rw [kn_auth1]
  clear hbn HA HBx HKx HSx HDx hc0 hc1 hc2 hc3 hgl
  have hc0 : w3.cell? ⟨w.heap.size + 1, 0, none⟩ = some (.string ⟨#[112]⟩) := (boxC HK.out).1
  have hc1 : w3.cell? ⟨w.heap.size + 1, 1, none⟩ = some (.int .i64 0) := (boxC HK.out).2.1
  have hc2 : w3.cell? ⟨w.heap.size + 1, 2, none⟩ = some (.slice (some ⟨w.heap.size, 0, none⟩) 1 1) := (boxC HK.out).2.2.1
  have hc3 : w3.cell? ⟨w.heap.size + 1, 3, none⟩ = some (.string ⟨#[97]⟩) := (boxC HK.out).2.2.2
  have hgl := HK.out.lt
  have hA := clsAt_one (Blk.new w3 31 (knC w.heap.size).arr) (HS.out.below ((Below.refl _ _).alloc (Nat.le_refl _) (.cells (knC w.heap.size).arr 31)))
  have HA := Lib.hid hA
  have hbx := HB.out.alloc HB.out.size (.cells (knC w.heap.size).arr 31)
  have HBx := Lib.hid hbx
  have hkx := HK.out.alloc (.cells (knC w.heap.size).arr 31)
  have HKx := Lib.hid hkx
  have hsx := HS.out.below ((Below.refl _ _).alloc (Nat.le_refl _) (.cells (knC w.heap.size).arr 31))
  have HSx := Lib.hid hsx
  have hdx := HD.out.below hbx
  have HDx := Lib.hid hdx
  clear hA hbx hkx hsx hdx
  go_wp2_with fail
  refine (ca.out _ [120] _ 1 HA.out).mono ?_
  rintro _ w4 ⟨rfl, hbn⟩
  replace HB := Lib.hid (below_next HBx.out hbn)
  replace HK := Lib.hid (HKx.out.below hbn HKx.out.lt)
  replace HS := Lib.hid (HSx.out.below hbn)
  rw [kn_auth2]
  clear hbn HA HBx HKx HSx HDx hc0 hc1 hc2 hc3 hgl
  have hc0 : w4.cell? ⟨w.heap.size + 1, 0, none⟩ = some (.string ⟨#[112]⟩) := (boxC HK.out).1
  have hc1 : w4.cell? ⟨w.heap.size + 1, 1, none⟩ = some (.int .i64 0) := (boxC HK.out).2.1
  have hc2 : w4.cell? ⟨w.heap.size + 1, 2, none⟩ = some (.slice (some ⟨w.heap.size, 0, none⟩) 1 1) := (boxC HK.out).2.2.1
  have hc3 : w4.cell? ⟨w.heap.size + 1, 3, none⟩ = some (.string ⟨#[97]⟩) := (boxC HK.out).2.2.2
  have hgl := HK.out.lt
  have hA := clsAt_one (Blk.new w4 31 (knC w.heap.size).arr) (HS.out.below ((Below.refl _ _).alloc (Nat.le_refl _) (.cells (knC w.heap.size).arr 31)))
  have HA := Lib.hid hA
  have hbx := HB.out.alloc HB.out.size (.cells (knC w.heap.size).arr 31)
  have HBx := Lib.hid hbx
  have hkx := HK.out.alloc (.cells (knC w.heap.size).arr 31)
  have HKx := Lib.hid hkx
  have hsx := HS.out.below ((Below.refl _ _).alloc (Nat.le_refl _) (.cells (knC w.heap.size).arr 31))
  have HSx := Lib.hid hsx
  have hdx := HD.out.below hbx
  have HDx := Lib.hid hdx
  clear hA hbx hkx hsx hdx
  go_wp2_with fail
  refine (find_walk [112] [knC w.heap.size] _ 1 _ HA.out (by show (1 : Nat) ≤ 1000000; omega)).mono ?_
  rintro _ w5 ⟨rfl, hbn⟩
  replace HB := Lib.hid (below_next HBx.out hbn)
  replace HK := Lib.hid (HKx.out.below hbn HKx.out.lt)
  replace HS := Lib.hid (HSx.out.below hbn)
  rw [kn_find]
  clear hbn HA HBx HKx HSx HDx hc0 hc1 hc2 hc3 hgl
  have hc0 : w5.cell? ⟨w.heap.size + 1, 0, none⟩ = some (.string ⟨#[112]⟩) := (boxC HK.out).1
  have hc1 : w5.cell? ⟨w.heap.size + 1, 1, none⟩ = some (.int .i64 0) := (boxC HK.out).2.1
  have hc2 : w5.cell? ⟨w.heap.size + 1, 2, none⟩ = some (.slice (some ⟨w.heap.size, 0, none⟩) 1 1) := (boxC HK.out).2.2.1
  have hc3 : w5.cell? ⟨w.heap.size + 1, 3, none⟩ = some (.string ⟨#[97]⟩) := (boxC HK.out).2.2.2
  have hgl := HK.out.lt
  have hA := clsAt_one (Blk.new w5 31 (knC w.heap.size).arr) (HS.out.below ((Below.refl _ _).alloc (Nat.le_refl _) (.cells (knC w.heap.size).arr 31)))
  have HA := Lib.hid hA
  have hbx := HB.out.alloc HB.out.size (.cells (knC w.heap.size).arr 31)
  have HBx := Lib.hid hbx
  have hkx := HK.out.alloc (.cells (knC w.heap.size).arr 31)
  have HKx := Lib.hid hkx
  have hsx := HS.out.below ((Below.refl _ _).alloc (Nat.le_refl _) (.cells (knC w.heap.size).arr 31))
  have HSx := Lib.hid hsx
  have hdx := HD.out.below hbx
  have HDx := Lib.hid hdx
  clear hA hbx hkx hsx hdx
  go_wp2_with fail
  refine (may_client [knC w.heap.size] _ 1 _ HA.out HDx.out ⟨by show (1 : Nat) ≤ 5000; omega, fun f hf => by rw [List.mem_singleton] at hf; rw [hf]; exact kn_short _⟩).mono ?_
  rintro _ w6 ⟨rfl, hbn⟩
  replace HB := Lib.hid (below_next HBx.out hbn)
  replace HK := Lib.hid (HKx.out.below hbn HKx.out.lt)
  replace HS := Lib.hid (HSx.out.below hbn)
  rw [kn_may1]
  clear hbn HA HBx HKx HSx HDx hc0 hc1 hc2 hc3 hgl
  have hc0 : w6.cell? ⟨w.heap.size + 1, 0, none⟩ = some (.string ⟨#[112]⟩) := (boxC HK.out).1
  have hc1 : w6.cell? ⟨w.heap.size + 1, 1, none⟩ = some (.int .i64 0) := (boxC HK.out).2.1
  have hc2 : w6.cell? ⟨w.heap.size + 1, 2, none⟩ = some (.slice (some ⟨w.heap.size, 0, none⟩) 1 1) := (boxC HK.out).2.2.1
  have hc3 : w6.cell? ⟨w.heap.size + 1, 3, none⟩ = some (.string ⟨#[97]⟩) := (boxC HK.out).2.2.2
  have hgl := HK.out.lt
  have hA := clsAt_two (Blk.new w6 31 ((knC w.heap.size).arr ++ (knC w.heap.size).arr)) (HS.out.below ((Below.refl _ _).alloc (Nat.le_refl _) (.cells ((knC w.heap.size).arr ++ (knC w.heap.size).arr) 31)))
  have HA := Lib.hid hA
  have hbx := HB.out.alloc HB.out.size (.cells ((knC w.heap.size).arr ++ (knC w.heap.size).arr) 31)
  have HBx := Lib.hid hbx
  have hkx := HK.out.alloc (.cells ((knC w.heap.size).arr ++ (knC w.heap.size).arr) 31)
  have HKx := Lib.hid hkx
  have hsx := HS.out.below ((Below.refl _ _).alloc (Nat.le_refl _) (.cells ((knC w.heap.size).arr ++ (knC w.heap.size).arr) 31))
  have HSx := Lib.hid hsx
  have hdx := HD.out.below hbx
  have HDx := Lib.hid hdx
  clear hA hbx hkx hsx hdx
  go_wp2_with fail
  refine (may_client [knC w.heap.size, knC w.heap.size] _ 2 _ HA.out HDx.out ⟨by show (2 : Nat) ≤ 5000; omega, fun f hf => by simp at hf; rw [hf]; exact kn_short _⟩).mono ?_
  rintro _ w7 ⟨rfl, hbn⟩
  replace HB := Lib.hid (below_next HBx.out hbn)
  replace HK := Lib.hid (HKx.out.below hbn HKx.out.lt)
  replace HS := Lib.hid (HSx.out.below hbn)
  rw [kn_may2]
  clear hbn HA HBx HKx HSx HDx hc0 hc1 hc2 hc3 hgl
  have hc0 : w7.cell? ⟨w.heap.size + 1, 0, none⟩ = some (.string ⟨#[112]⟩) := (boxC HK.out).1
  have hc1 : w7.cell? ⟨w.heap.size + 1, 1, none⟩ = some (.int .i64 0) := (boxC HK.out).2.1
  have hc2 : w7.cell? ⟨w.heap.size + 1, 2, none⟩ = some (.slice (some ⟨w.heap.size, 0, none⟩) 1 1) := (boxC HK.out).2.2.1
  have hc3 : w7.cell? ⟨w.heap.size + 1, 3, none⟩ = some (.string ⟨#[97]⟩) := (boxC HK.out).2.2.2
  have hgl := HK.out.lt
  have ck := Lib.hid (knows_walk (knC w.heap.size) redL17 w7 HS.out (by show (1 : Nat) ≤ 1000000; omega))
  rw [kn_knows] at ck
  go_wp2_with fail
  refine ck.out.mono ?_
  rintro _ w8 ⟨rfl, hbn⟩
  have HB8 := Lib.hid (below_next HB.out hbn)
  clear hbn ck hc0 hc1 hc2 hc3 hgl HB HK HS
  go_wp2_with fail
  go_ret
  exact ⟨rfl, HB8.out⟩
end Go.Proofs.YtekbdfnbnpmclaaGreatDoor
