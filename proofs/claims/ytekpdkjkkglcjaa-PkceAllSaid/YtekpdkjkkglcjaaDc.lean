import Derived.Test.YtekpdkjkkglcjaaDb
set_option linter.unusedVariables false
set_option linter.unusedSimpArgs false
set_option maxRecDepth 20000
namespace Go.Proofs.Ytekpdkjkkglcjaa
open Go.RowKit
theorem beN_snoc (l : List UInt8) (b : UInt8) : beN (l ++ [b]) = beN l * 256 + b.toNat := by simp [beN]
theorem foldl_be (l : List UInt8) : ∀ a : Nat, l.foldl (fun v b => v * 256 + b.toNat) a < (a + 1) * 256 ^ l.length := by
  induction l with
  | nil => intro a; simp
  | cons b l ih =>
    intro a
    have h1 := ih (a * 256 + b.toNat)
    have h2 := b.toNat_lt
    rw [List.foldl_cons, List.length_cons, Nat.pow_succ]
    have h3 : (a * 256 + b.toNat + 1) * 256 ^ l.length ≤ ((a + 1) * 256) * 256 ^ l.length := Nat.mul_le_mul_right _ (by omega)
    rw [Nat.mul_comm (256 ^ l.length) 256, ← Nat.mul_assoc]
    omega
theorem beN_lt (l : List UInt8) : beN l < 256 ^ l.length := by simpa [beN] using foldl_be l 0
theorem or_be (v b : Nat) (hv : v < 16777216) (hb : b < 256) : bits .or .i64 (wrap64 ((v : Int) * 256)) (wrap64 (b : Int)) = ((v * 256 + b : Nat) : Int) := by
  rw [show wrap64 ((v : Int) * 256) = (v : Int) * 256 by unfold wrap64; omega, show wrap64 (b : Int) = (b : Int) by unfold wrap64; omega,
    bits_join .i64 63 (by decide) (fun n h0 h1 => by rw [IntKind.wrap_i64]; omega) 8 _ _ (by omega) (by omega) (by omega) (by omega) (by omega) (by omega)]
  omega
theorem be3 (l : List UInt8) (h : l.length ≤ 3) : beN l < 16777216 := by
  have h1 := beN_lt l
  have h2 : 256 ^ l.length ≤ 256 ^ 3 := Nat.pow_le_pow_right (by omega) h
  exact Nat.lt_of_lt_of_le h1 (by simpa using h2)
theorem be4 (l : List UInt8) (h : l.length ≤ 4) : beN l < 4294967296 := by
  have h1 := beN_lt l
  have h2 : 256 ^ l.length ≤ 256 ^ 4 := Nat.pow_le_pow_right (by omega) h
  exact Nat.lt_of_lt_of_le h1 (by simpa using h2)
theorem w64 (x : Int) (h0 : 0 ≤ x) (h1 : x < 9223372036854775808) : wrap64 x = x := by unfold wrap64; omega
theorem or_be2 (v b : Nat) (hv : v < 16777216) (hb : b < 256) : bits .or .i64 (wrap64 ((v : Int) * 256)) (b : Int) = ((v * 256 + b : Nat) : Int) := by
  have e := w64 (b : Int) (by omega) (by omega)
  have h := or_be v b hv hb
  rwa [e] at h
theorem or_be3 (v b : Nat) (hv : v < 16777216) (hb : b < 256) : bits .or .i64 ((v : Int) * 256) (b : Int) = ((v * 256 + b : Nat) : Int) := by
  have h := or_be2 v b hv hb
  rwa [w64 ((v : Int) * 256) (Int.mul_nonneg (Int.natCast_nonneg v) (by decide)) (by clear h; omega)] at h
/-- a number comes back, or why not -/
def NumR (g : Nat) (l : List UInt8) (n : Nat) (r : Except Int (Nat × Nat)) (w : World) (e : Ending) (w' : World) : Prop :=
  match r with
  | .error c => ∃ v : Int, e = .returned (.tuple #[.int .i64 v, .iface 60 (.int .i64 c)]) ∧ w.grownBy w' (some g)
  | .ok (v, q) => e = .returned (.tuple #[.int .i64 v, .nilIface]) ∧ RdAt w' g l q n ∧ w.grownBy w' (some g)
set_option maxHeartbeats 1000000 in
theorem number_walk (l : List UInt8) (g p n m most : Nat) (w : World) (h : RdAt w g l p n) (hm : m ≤ 4) (hmost : most ≤ 9223372036854775807) :
    Calls Try.prog 74 #[.pointer (some ⟨g, 0, none⟩), .int .i64 m, .int .i64 most] w (NumR g l n (numT l p m most) w) := by
  by_cases hs : l.length < p + m
  · have hv : Hid (numT l p m most = .error 1) := by show _ = _; rw [numT, if_pos hs]
    have ct := Lib.hid (take_short l g p n m w h (by omega) hs)
    clear hs h
    go_enter Try.func74, Try.ntmps74
    go_wp2_with fail
    refine ct.out.mono ?_
    rintro _ w1 ⟨rfl, q, rfl⟩
    go_wp2_with fail
    go_ret2
    rw [hv.out]
    exact ⟨0, rfl, only_drewN (only_refl w _) q⟩
  · have ct := Lib.hid (take_ok l g p n m w h (by omega) (by omega))
    go_enter Try.func74, Try.ntmps74
    go_wp2_with fail
    refine ct.out.mono ?_
    rintro _ w1 ⟨A, c, rfl, hmc, hrd, hrt, hg⟩
    obtain ⟨bl, hbl⟩ : ∃ bl, (l.drop p).take m = bl := ⟨_, rfl⟩
    rw [hbl] at hrd
    have hlen : bl.length = m := by rw [← hbl, List.length_take, List.length_drop]; omega
    have HBL := Lib.hid hbl
    have HRT := Lib.hid hrt
    have HG := Lib.hid hg
    clear hbl hrt hg ct h
    go_wp2_with fail
    go_loopw [10, 24] (fun vv iv wr => ∃ i : Nat, i ≤ m ∧ iv = .int .i64 i ∧ vv = .int .i64 (beN (bl.take i) : Nat) ∧ w1 = wr) (fun _ iv _ => m - (intOf iv).toNat)
    case atStart => exact ⟨0, by omega, rfl, rfl, rfl⟩
    case round =>
      obtain ⟨i, hi, rfl, rfl, rfl⟩ := hrel
      by_cases hlt : i < m
      · obtain ⟨b, o, x, rfl, hb, hcb, hx, HX⟩ := hrd.byteN hlt
        have hv1 := be3 (bl.take i) (by rw [List.length_take]; omega)
        have hnx : Hid (beN (bl.take (i + 1)) = beN (bl.take i) * 256 + x) := by
          show _ = _
          have hi2 : i < bl.length := by omega
          rw [List.take_add_one, List.getElem?_eq_getElem hi2]
          show beN (bl.take i ++ [bl[i]]) = _
          rw [beN_snoc]
          have := HX.out
          rw [List.getD, List.getElem?_eq_getElem hi2] at this
          simp at this
          rw [this]
        obtain ⟨v, hv⟩ : ∃ v, beN (bl.take i) = v := ⟨_, rfl⟩
        rw [hv] at hv1 hnx ⊢
        have hcs := Lib.hid (show ((v * 256 + x : Nat) : Int) = (v : Int) * 256 + (x : Int) by omega)
        have hor : True → bits .or .i64 (wrap64 ((v : Int) * 256)) (wrap64 (x : Int)) = ((v * 256 + x : Nat) : Int) := fun _ => or_be v x hv1 hx
        have hor2 : True → bits .or .i64 (wrap64 ((v : Int) * 256)) (x : Int) = ((v * 256 + x : Nat) : Int) := fun _ => or_be2 v x hv1 hx
        have hor3 : True → bits .or .i64 ((v : Int) * 256) (x : Int) = ((v * 256 + x : Nat) : Int) := fun _ => or_be3 v x hv1 hx
        clear hv hv1
        go_wp2_with fail
        exact ⟨⟨i + 1, by omega, by go_num, by rw [hnx.out]; rw [hcs.out], trivial⟩, by simp [intOf]; omega⟩
      · obtain rfl : i = m := by omega
        have hv3 := be4 bl (by omega)
        rw [List.take_of_length_le (by omega)]
        have hbb : Hid (beN ((l.drop p).take i) = beN bl) := by show _ = _; rw [HBL.out]
        obtain ⟨v, hv⟩ : ∃ v, beN bl = v := ⟨_, rfl⟩
        rw [hv] at hv3 hbb ⊢
        have HS := Lib.hid hs
        by_cases hmo : most < v
        · have hr : Hid (numT l p i most = .error 3) := by show _ = _; rw [numT, if_neg HS.out, hbb.out, if_pos hmo]
          clear hv hbb hs
          go_wp2_with fail
          go_ret2
          rw [hr.out]
          exact ⟨0, rfl, HG.out⟩
        · have hr : Hid (numT l p i most = .ok (v, p + i)) := by show _ = _; rw [numT, if_neg HS.out, hbb.out, if_neg hmo]
          clear hv hbb hs
          go_wp2_with fail
          go_ret2
          rw [hr.out]
          exact ⟨rfl, HRT.out, HG.out⟩
end Go.Proofs.Ytekpdkjkkglcjaa
