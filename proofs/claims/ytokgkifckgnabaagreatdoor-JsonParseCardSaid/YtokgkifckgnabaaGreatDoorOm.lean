/- JsonParse: of any text which value it is, or why none. Condition: the laid variables. -/
import Derived.Test.YtokgkifckgnabaaGreatDoorOh
import Derived.Test.YtokgkifckgnabaaGreatDoorOk
import Derived.Test.YtokgkifckgnabaaGreatDoorOj
import Derived.Test.YtokgkifckgnabaaGreatDoorLg
import Derived.Test.YtokgkifckgnabaaGreatDoorJv
import Derived.Test.YtokgkifckgnabaaGreatDoorM6
import Derived.Laws.BitsAllLaws
set_option linter.unusedVariables false
set_option linter.unusedSimpArgs false
set_option maxRecDepth 20000
namespace Go.Proofs.YtokgkifckgnabaaGreatDoor
open Go.RowKit Go.Maps
theorem rmany_step (d : Nat) (h : RValOk d) : RManyOk (d + 1) := by
  intro g s p deep kind w hR hps hdd hk
  rcases hk with rfl | rfl
  · exact rmany5 d h g s p deep w hR hps hdd
  · exact rmany6 d h g s p deep w hR hps hdd
theorem rval_all : ∀ d, RValOk d
  | 0 => rvalue_step 0 rmany0
  | d + 1 => rvalue_step (d + 1) (rmany_step d (rval_all d))
theorem own_set12 {w : World} {base g n cap k : Nat} {e : TypeId} {xs : List Value} (h : w.ownsRow base e 1 (.slice (some ⟨g, 0, none⟩) n cap) n xs) (hk : k < n) (u : Value) : (w.setCell ⟨g, k, none⟩ u).ownsRow base e 1 (.slice (some ⟨g, 0, none⟩) n cap) n (xs.set k u) := by
  refine ⟨by rw [List.length_set]; exact h.1, ?_⟩
  rcases h.2 with ⟨h1, _⟩ | ⟨g', cap', cur, h1, h2, h3, h4, h5, h6, h7⟩
  · cases h1
  · injection h1 with a b c
    injection a with a
    injection a with a
    subst a c
    refine .inr ⟨g, cap, cur.setIfInBounds k u, rfl, h2, heap_setCell_same w g k cur e u h3, h4, h5, by simpa using h6, ?_⟩
    rw [Array.toList_setIfInBounds, ← h7, List.take_set]
theorem own_cell12 {w : World} {base g n cap k : Nat} {e : TypeId} {l : List UInt8} (h : w.ownsRow base e 1 (.slice (some ⟨g, 0, none⟩) n cap) n (Lib.byteCells l)) (hk : k < l.length) : w.cell? ⟨g, k, none⟩ = some (.int .u8 ((l[k]'hk).toNat : Int)) ∧ w.frozen? ⟨g, k, none⟩ = false := by
  constructor
  · have := h.cells (g := g) rfl k (.int .u8 ((l[k]'hk).toNat : Int)) (by simp [Lib.byteCells, hk])
    rwa [add_zero_at] at this
  · rcases h.2 with ⟨h1, _⟩ | ⟨g', cap', cur, h1, h2, h3, _⟩
    · cases h1
    · injection h1 with a b c
      injection a with a
      injection a with a
      subst a
      exact Blk.frozen (t := e) (cs := cur) h3 k
theorem byteCells_set12 (l : List UInt8) (k : Nat) (b : UInt8) : (Lib.byteCells l).set k (.int .u8 (b.toNat : Int)) = Lib.byteCells (l.set k b) := by
  simp [Lib.byteCells, List.map_set]
theorem parseL_nil : parseL [] = (3, jvZ) := by unfold parseL; rw [wordR_nil rfl]; rfl
theorem eight_at {a0 a1 a2 a3 a4 a5 a6 a7 : ByteArray} (i : Nat) (hi : i < 8) (h0 : a0.size ≤ 100000) (h1 : a1.size ≤ 100000) (h2 : a2.size ≤ 100000) (h3 : a3.size ≤ 100000) (h4 : a4.size ≤ 100000) (h5 : a5.size ≤ 100000) (h6 : a6.size ≤ 100000) (h7 : a7.size ≤ 100000) :
    ∃ y : ByteArray, (#[Value.string a0, .string a1, .string a2, .string a3, .string a4, .string a5, .string a6, .string a7] : Array Value)[i]? = some (.string y) ∧ y.size ≤ 100000 := by
  match i, hi with
  | 0, _ => exact ⟨a0, rfl, h0⟩
  | 1, _ => exact ⟨a1, rfl, h1⟩
  | 2, _ => exact ⟨a2, rfl, h2⟩
  | 3, _ => exact ⟨a3, rfl, h3⟩
  | 4, _ => exact ⟨a4, rfl, h4⟩
  | 5, _ => exact ⟨a5, rfl, h5⟩
  | 6, _ => exact ⟨a6, rfl, h6⟩
  | 7, _ => exact ⟨a7, rfl, h7⟩
theorem parse_erw12 (s : ByteArray) (l : List UInt8) (er : Nat) (v : Jv) (hs : s.data.toList = l) (hp : parseL l = (er, v)) (hm : s.size ≤ 1000000) (w : World) (hL : LaidB w w.heap.size) : Calls Tryz.prog 10 #[.string s] w fun e w' => ∃ cs, e = .returned (.tuple #[.agg cs.toArray, .int .i64 (er : Int)]) ∧ JvV w' w.heap.size v cs ∧ Below w.heap.size w w' := by
  refine (parse_walk s l hs hm w hL).mono ?_
  rintro e w' ⟨cs, he, hv, hb⟩
  rw [hp] at he hv
  exact ⟨cs, he, hv, hb⟩
theorem rparse_erw12 (s : ByteArray) (l : List UInt8) (er : Nat) (v : Jv) (hs : s.data.toList = l) (hp : parseL l = (er, v)) (hm : s.size ≤ 1000000) (w : World) : Calls Tryz.prog 11 #[.string s] w fun e w' => ∃ cs, e = .returned (.tuple #[.agg cs.toArray, .int .i64 (er : Int)]) ∧ JvV w' w.heap.size v cs ∧ Below w.heap.size w w' := by
  refine (rparse_walk (rval_all 8) s l hs hm w).mono ?_
  rintro e w' ⟨cs, he, hv, hb⟩
  rw [hp] at he hv
  exact ⟨cs, he, hv, hb⟩
set_option maxHeartbeats 40000000 in
theorem parse12_law (x : ByteArray) (zs : List Int) (A : Option Addr) (c : Nat) (at_ yb : Int) (w : World) (hr : IntsIn w A c zs) (hat : -9223372036854775808 ≤ at_ ∧ at_ ≤ 9223372036854775807) (hby : 0 ≤ yb ∧ yb ≤ 255) (hL : LaidB w w.heap.size) :
    Calls Tryz.prog 3 #[.string x, .slice A zs.length c, .int .i64 at_, .int .u8 yb] w fun e w' => e = .returned (.bool true) ∧ Below w.heap.size w w' := by
  obtain ⟨i0, hi, hz0, hz1, hz2⟩ := infoS4 info_u8
  have ck := Lib.hid (known12_walk w hL)
  have HR := Lib.hid hr
  obtain ⟨yn, rfl⟩ := Int.eq_ofNat_of_zero_le hby.1
  have hyn : yn ≤ 255 := by omega
  have HAT := Lib.hid hat
  clear hL hr hby hat
  go_enter Tryz.func3, Tryz.ntmps3
  go_wp2_with fail
  refine ck.out.mono ?_
  rintro _ w1 ⟨rfl, hS1⟩
  have HA := Lib.hid (show StA w [] [] w1 from ⟨hS1.laid, hS1.below, fun p hp => by simp at hp, fun p hp => by simp at hp⟩)
  clear hS1 ck
  by_cases hx : x.size ≤ 300
  case neg =>
    have d1 : decide ((300 : Int) < (x.size : Int)) = true := by simp; omega
    have d2 : decide (300 < x.size) = true := by simp; omega
    go_wp2_with fail
    go_ret
    exact ⟨rfl, HA.out.below⟩
  have d1 : decide ((300 : Int) < (x.size : Int)) = false := by simp; omega
  have d2 : decide (300 < x.size) = false := by simp; omega
  have hT := tape_new (HR.out.below HA.out.below)
  have cv := Lib.hid (tape_any 3 (by decide) zs _ 0 _ hT)
  clear hT
  go_wp2_with fail
  refine cv.out.mono ?_
  rintro _ w2 ⟨v, csv, kv, rfl, hv, -, hg, hfv⟩
  have hb2 : Below w1.heap.size w1 w2 := (alloc_below w1 _).grown hg (by simp) (fun q e => by injection e with e; omega)
  obtain ⟨k1, b1, n1, s1, N1, nn1, nc1, A1, m1, c1, rfl⟩ := hv.form
  have HA3 := Lib.hid ((HA.out.next hb2).value hv)
  have hmay0 : mayB v = true := hfv.1 0 (by decide)
  have hszv : szJ v ≤ 454 := Nat.le_trans hfv.2 (by decide)
  have HSM := Lib.hid (smJ_of_may v 0 hmay0 (by omega))
  have hple := jprint_le v HSM.out
  have hpj : printJ v = jprint v := if_pos hmay0
  rw [← hpj] at hple
  have hpb := parse_back hmay0
  have cpr := Lib.hid (fun W (hT : Tab W) cs (hj : JvV W 0 v cs) => rprintm_walk v cs W HSM.out (by omega) hT hj)
  rw [← hpj] at hpb
  generalize printJ v = p at hple hpb cpr
  have hp0 : 0 < p.length := by
    rcases Nat.eq_zero_or_pos p.length with h | h
    · rw [List.length_eq_zero_iff.1 h, parseL_nil] at hpb
      cases hpb
    · exact h
  have hpl : p.length ≤ 20000 := by omega
  clear hg cv HA hv hb2 hmay0 hple hpj hpb hfv HSM hszv
  obtain ⟨l0, l1, l2, l3, l4, l5⟩ := six_cells (HA3.out.vals (w2.heap.size, v, [.int .i64 k1, .bool b1, .int .i64 n1, .string s1, .slice N1 nn1 nc1, .slice A1 m1 c1]) (by simp)).1
  have HV1 := Lib.hid (HA3.out.vals (w2.heap.size, v, [.int .i64 k1, .bool b1, .int .i64 n1, .string s1, .slice N1 nn1 nc1, .slice A1 m1 c1]) (by simp))
  replace HA3 := Lib.hid (HA3.out.sub (L' := []) (M' := []) (by simp) (by simp))
  go_wp2_with (refine wpList_load_at rfl 27 _ rfl ⟨w2.heap.size, 0, none⟩ rfl [.int .i64 k1, .bool b1, .int .i64 n1, .string s1, .slice N1 nn1 nc1, .slice A1 m1 c1] _ (blk_cells HV1.out.1) Tryz.underlying27 rfl jv_size ?_)
  generalize w2.alloc (.cells #[.int .i64 k1, .bool b1, .int .i64 n1, .string s1, .slice N1 nn1 nc1, .slice A1 m1 c1] 27) = W3 at HA3 HV1 l0 l1 l2 l3 l4 l5 ⊢
  refine (cpr.out W3 HA3.out.laid.tab _ HV1.out.2).mono ?_
  rintro _ W4 ⟨rfl, hb4⟩
  have HA4 := Lib.hid (HA3.out.next hb4)
  clear hb4 HA3 l0 l1 l2 l3 l4 l5 cpr HV1
  have hcv := fun w => Lib.run_convert_string_bytes (P := Tryz.prog) w 9 32 5 ⟨p.toArray⟩ Tryz.underlying9 Tryz.underlying32 Tryz.underlying5
  obtain ⟨k, hk, ek⟩ : ∃ k : Nat, k < p.length ∧ at_ % (p.length : Int) = k := ⟨(at_ % (p.length : Int)).toNat, by have := Int.emod_nonneg at_ (show (p.length : Int) ≠ 0 by omega); have := Int.emod_lt_of_pos at_ (show (0 : Int) < (p.length : Int) by omega); omega, by have := Int.emod_nonneg at_ (show (p.length : Int) ≠ 0 by omega); omega⟩
  have cw := Lib.hid (fun W => within12_walk at_ (p.length : Int) W (by omega) (by omega) HAT.out)
  rw [ek] at cw
  clear ek
  have hbr := BRow.new 5 W4 p
  have hbb := below_bytes 5 W4 p
  have HA5 := Lib.hid (HA4.out.next hbb)
  have HBR := Lib.hid hbr
  have hgl : W4.heap.size < (Lib.bytesWorld W4 5 ⟨p.toArray⟩).heap.size := hbr.lt
  clear hbr hbb HA4
  go_wp2_with fail
  generalize Lib.bytesWorld W4 5 ⟨p.toArray⟩ = W5 at HA5 HBR hgl ⊢
  have hcp := grownCap_ge W4 p.length 0 5
  generalize grownCap W4 p.length 0 5 = cp at hcp ⊢
  have hkcp : k ≤ cp := by omega
  generalize W4.heap.size = gb at HBR hgl ⊢
  clear hcv
  refine (cw.out _).mono ?_
  rintro _ _ ⟨rfl, rfl⟩
  clear cw
  have HBA := Lib.hid (HBR.out.below (alloc_below W5 (.cells #[] 5)) hgl)
  go_upto_region 9 with (at_builtin; first | (refine wpList_append_sl (W5.alloc (.cells #[] 5)) rfl (.tmp 35) (.tmp 36) 32 rfl W5.heap.size 5 i0 (.int .u8 0) 1 1 Tryz.underlying32 hi hz0 hz1 hz2 rfl (by decide) (.slice (some ⟨W5.heap.size, 0, none⟩) 0 0) 0 [] rfl (own_empty W5 _) (W5.alloc (.cells #[] 5)).heap.size (some ⟨gb, 0, none⟩) p.length cp (Lib.byteCells p) rfl HBA.out.reads (byteCells_ones _) (by unfold maxLen; omega) (by omega) (by simp) p.length (Nat.zero_add _) (Lib.byteCells p) (List.nil_append _) ?_; intro A6 c6 W6 hc6 hown6 hg6))
  obtain ⟨g6, cap6, e6, hgl6, _⟩ := hown6.form hp0
  injection e6 with e6 _ e7
  subst e6 e7
  have hb6 := grown_below ((Below.refl W5.heap.size W5).alloc (Nat.le_refl _) (.cells #[] 5)) (own_empty W5 _) hg6 (by simp)
  obtain ⟨hcx, hfx⟩ := own_cell12 hown6 hk
  obtain ⟨x0, hx0⟩ : ∃ x0 : Nat, (p[k]'hk).toNat = x0 := ⟨_, rfl⟩
  have hx2 : x0 < 256 := by rw [← hx0]; exact (p[k]'hk).toNat_lt
  rw [hx0] at hcx
  obtain ⟨z, hz, hzl⟩ : ∃ z : Nat, bits .xor .u8 (x0 : Int) (yn : Int) = (z : Int) ∧ z < 256 := ⟨_, u8_xor_nat x0 yn hx2 (by omega), Nat.xor_lt_two_pow (n := 8) hx2 (by omega)⟩
  have hs7 := own_set12 hown6 hk (.int .u8 (z : Int))
  have hzz : (UInt8.ofNat z).toNat = z := by simp; omega
  rw [← hzz, byteCells_set12] at hs7
  rw [hzz] at hs7
  have hyl : (p.set k (UInt8.ofNat z)).length = p.length := by simp
  generalize p.set k (UInt8.ofNat z) = Y at hs7 hyl
  have hb7 : Below W5.heap.size W5 (W6.setCell ⟨g6, k, none⟩ (.int .u8 (z : Int))) := hb6.setCell (by show W5.heap.size ≤ g6; omega) _
  have HA7 := Lib.hid (HA5.out.next hb7)
  have hr1 := (HBR.out.below hb7 hgl).reads
  have hr2 : Reads (W6.setCell ⟨g6, k, none⟩ (.int .u8 (z : Int))) (W6.setCell ⟨g6, k, none⟩ (.int .u8 (z : Int))).heap.size 1 (some ⟨g6, 0, none⟩) p.length (Lib.byteCells Y) := Reads.of_own hs7
  have hr3 := hr1.frontB (Nat.le_of_lt hk)
  obtain ⟨sb, hsb, hsbl⟩ := mk_name p hpl
  obtain ⟨sy, hsy, hsyl⟩ := mk_name Y (n := 20000) (by omega)
  obtain ⟨sk, hsk, hskl⟩ := mk_name (p.take k) (n := 20000) (by rw [List.length_take]; omega)
  have HSA : Hid (∀ W, Below (W6.setCell ⟨g6, k, none⟩ (.int .u8 (z : Int))).heap.size (W6.setCell ⟨g6, k, none⟩ (.int .u8 (z : Int))) W →
      (convert 32 9 (.slice (some ⟨gb, 0, none⟩) p.length cp)).run Tryz.prog W = .ok (.string sb) W ∧
      (convert 32 9 (.slice (some ⟨g6, 0, none⟩) p.length c6)).run Tryz.prog W = .ok (.string sy) W ∧
      (convert 32 9 (.slice (some ⟨gb, 0, none⟩) k cp)).run Tryz.prog W = .ok (.string sk) W) := fun W h =>
    ⟨by rw [← hsb]; exact str_string (hr1.below h), by rw [← hsy]; exact str_string (hr2.below h), by rw [← hsk]; exact str_string (hr3.below h)⟩
  have hkk : (k : Int) < (p.length : Int) := by omega
  clear hr1 hr2 hr3 hsb hsy hsk hs7 hyl hzz hx0 hb6 hb7 hown6 hg6 HBA HBR HA5 hgl6 hgl
  go_upto_region 10 with fail
  generalize W6.setCell ⟨g6, k, none⟩ (.int .u8 (z : Int)) = W7 at HSA HA7 ⊢
  have q1 : ¬ 9223372036854775807 < 2 + sb.size := by omega
  have q2 : ¬ 9223372036854775807 < 2 + sb.size + 3 := by omega
  have q3 : ¬ 9223372036854775807 < 2 + sb.size + 3 + x.size := by omega
  have q4 : ¬ 9223372036854775807 < 2 + sb.size + 3 + x.size + 2 := by omega
  have r1 : ¬ 9223372036854775807 < 5 + sb.size := by omega
  have r2 : ¬ 9223372036854775807 < 5 + sb.size + 1 := by omega
  have r3 : ¬ 9223372036854775807 < 5 + sb.size + 1 + x.size := by omega
  have HA8 := Lib.hid (HA7.out.next (Below.refl W7.heap.size W7).drew)
  have HB8 := Lib.hid (Below.refl W7.heap.size W7).drew
  have hS0 := HSA.out W7.drew HB8.out
  generalize hW8 : W7.drew = W8 at HA8 HB8
  refine wp_region_held_drew (S := fun W => ((convert 32 9 (.slice (some ⟨gb, 0, none⟩) p.length cp)).run Tryz.prog W = .ok (.string sb) W) ∧ ((convert 32 9 (.slice (some ⟨g6, 0, none⟩) p.length c6)).run Tryz.prog W = .ok (.string sy) W) ∧ ((convert 32 9 (.slice (some ⟨gb, 0, none⟩) k cp)).run Tryz.prog W = .ok (.string sk) W)) (by kernel_rfl) hS0 (fun hHeld => ?_)
  rw [hW8]
  have hHeld := HSA.out W8 HB8.out
  clear hS0 hW8
  first | (refine tk 0 rfl (Or.inr ⟨?_, rfl⟩) ?_; rfl) | (refine tk 0 rfl (v := ?_) (Or.inl ⟨?_, ?_⟩) ?_; rotate_left; rfl; focus (intro w hSw; (try dsimp only at hSw); go_simp; all_goals (with_reducible rfl)))
  (try simp only [nrm, Act.put])
  first | (refine tk 1 rfl (Or.inr ⟨?_, rfl⟩) ?_; rfl) | (refine tk 1 rfl (v := ?_) (Or.inl ⟨?_, ?_⟩) ?_; rotate_left; rfl; focus (intro w hSw; (try dsimp only at hSw); go_simp; all_goals (with_reducible rfl)))
  (try simp only [nrm, Act.put])
  first | (refine tk 3 rfl (Or.inr ⟨?_, rfl⟩) ?_; rfl) | (refine tk 3 rfl (v := ?_) (Or.inl ⟨?_, ?_⟩) ?_; rotate_left; rfl; focus (intro w hSw; (try dsimp only at hSw); go_simp; all_goals (with_reducible rfl)))
  (try simp only [nrm, Act.put])
  first | (refine tk 5 rfl (Or.inr ⟨?_, rfl⟩) ?_; rfl) | (refine tk 5 rfl (v := ?_) (Or.inl ⟨?_, ?_⟩) ?_; rotate_left; rfl; focus (intro w hSw; (try dsimp only at hSw); go_simp; all_goals (with_reducible rfl)))
  (try simp only [nrm, Act.put])
  first | (refine tk 7 rfl (Or.inr ⟨?_, rfl⟩) ?_; rfl) | (refine tk 7 rfl (v := ?_) (Or.inl ⟨?_, ?_⟩) ?_; rotate_left; rfl; focus (intro w hSw; (try dsimp only at hSw); go_simp; all_goals (with_reducible rfl)))
  (try simp only [nrm, Act.put])
  first | (refine tk 11 rfl (Or.inr ⟨?_, rfl⟩) ?_; rfl) | (refine tk 11 rfl (v := ?_) (Or.inl ⟨?_, ?_⟩) ?_; rotate_left; rfl; focus (intro w hSw; (try dsimp only at hSw); go_simp; all_goals (with_reducible rfl)))
  (try simp only [nrm, Act.put])
  first | (refine tk 14 rfl (Or.inr ⟨?_, rfl⟩) ?_; rfl) | (refine tk 14 rfl (v := ?_) (Or.inl ⟨?_, ?_⟩) ?_; rotate_left; rfl; focus (intro w hSw; (try dsimp only at hSw); go_simp; all_goals (with_reducible rfl)))
  (try simp only [nrm, Act.put])
  first | (refine tk 18 rfl (Or.inr ⟨?_, rfl⟩) ?_; rfl) | (refine tk 18 rfl (v := ?_) (Or.inl ⟨?_, ?_⟩) ?_; rotate_left; rfl; focus (intro w hSw; (try dsimp only at hSw); go_simp; all_goals (with_reducible rfl)))
  (try simp only [nrm, Act.put])
  first | (refine tk 20 rfl (Or.inr ⟨?_, rfl⟩) ?_; rfl) | (refine tk 20 rfl (v := ?_) (Or.inl ⟨?_, ?_⟩) ?_; rotate_left; rfl; focus (intro w hSw; (try dsimp only at hSw); go_simp; all_goals (with_reducible rfl)))
  (try simp only [nrm, Act.put])
  first | (refine tk 21 rfl (Or.inr ⟨?_, rfl⟩) ?_; rfl) | (refine tk 21 rfl (v := ?_) (Or.inl ⟨?_, ?_⟩) ?_; rotate_left; rfl; focus (intro w hSw; (try dsimp only at hSw); go_simp; all_goals (with_reducible rfl)))
  (try simp only [nrm, Act.put])
  first | (refine tk 24 rfl (Or.inr ⟨?_, rfl⟩) ?_; rfl) | (refine tk 24 rfl (v := ?_) (Or.inl ⟨?_, ?_⟩) ?_; rotate_left; rfl; focus (intro w hSw; (try dsimp only at hSw); go_simp; all_goals (with_reducible rfl)))
  (try simp only [nrm, Act.put])
  first | (refine tk 4 rfl (Or.inr ⟨?_, rfl⟩) ?_; rfl) | (refine tk 4 rfl (v := ?_) (Or.inl ⟨?_, ?_⟩) ?_; rotate_left; rfl; focus (intro w hSw; (try dsimp only at hSw); go_simp; all_goals (with_reducible rfl)))
  (try simp only [nrm, Act.put])
  first | (refine tk 6 rfl (Or.inr ⟨?_, rfl⟩) ?_; rfl) | (refine tk 6 rfl (v := ?_) (Or.inl ⟨?_, ?_⟩) ?_; rotate_left; rfl; focus (intro w hSw; (try dsimp only at hSw); go_simp; all_goals (with_reducible rfl)))
  (try simp only [nrm, Act.put])
  first | (refine tk 8 rfl (Or.inr ⟨?_, rfl⟩) ?_; rfl) | (refine tk 8 rfl (v := ?_) (Or.inl ⟨?_, ?_⟩) ?_; rotate_left; rfl; focus (intro w hSw; (try dsimp only at hSw); go_simp; all_goals (with_reducible rfl)))
  (try simp only [nrm, Act.put])
  first | (refine tk 9 rfl (Or.inr ⟨?_, rfl⟩) ?_; rfl) | (refine tk 9 rfl (v := ?_) (Or.inl ⟨?_, ?_⟩) ?_; rotate_left; rfl; focus (intro w hSw; (try dsimp only at hSw); go_simp; all_goals (with_reducible rfl)))
  (try simp only [nrm, Act.put])
  first | (refine tk 10 rfl (Or.inr ⟨?_, rfl⟩) ?_; rfl) | (refine tk 10 rfl (v := ?_) (Or.inl ⟨?_, ?_⟩) ?_; rotate_left; rfl; focus (intro w hSw; (try dsimp only at hSw); go_simp; all_goals (with_reducible rfl)))
  (try simp only [nrm, Act.put])
  first | (refine tk 12 rfl (Or.inr ⟨?_, rfl⟩) ?_; rfl) | (refine tk 12 rfl (v := ?_) (Or.inl ⟨?_, ?_⟩) ?_; rotate_left; rfl; focus (intro w hSw; (try dsimp only at hSw); go_simp; all_goals (with_reducible rfl)))
  (try simp only [nrm, Act.put])
  first | (refine tk 13 rfl (Or.inr ⟨?_, rfl⟩) ?_; rfl) | (refine tk 13 rfl (v := ?_) (Or.inl ⟨?_, ?_⟩) ?_; rotate_left; rfl; focus (intro w hSw; (try dsimp only at hSw); go_simp; all_goals (with_reducible rfl)))
  (try simp only [nrm, Act.put])
  first | (refine tk 15 rfl (Or.inr ⟨?_, rfl⟩) ?_; rfl) | (refine tk 15 rfl (v := ?_) (Or.inl ⟨?_, ?_⟩) ?_; rotate_left; rfl; focus (intro w hSw; (try dsimp only at hSw); go_simp; all_goals (with_reducible rfl)))
  (try simp only [nrm, Act.put])
  first | (refine tk 16 rfl (Or.inr ⟨?_, rfl⟩) ?_; rfl) | (refine tk 16 rfl (v := ?_) (Or.inl ⟨?_, ?_⟩) ?_; rotate_left; rfl; focus (intro w hSw; (try dsimp only at hSw); go_simp; all_goals (with_reducible rfl)))
  (try simp only [nrm, Act.put])
  first | (refine tk 17 rfl (Or.inr ⟨?_, rfl⟩) ?_; rfl) | (refine tk 17 rfl (v := ?_) (Or.inl ⟨?_, ?_⟩) ?_; rotate_left; rfl; focus (intro w hSw; (try dsimp only at hSw); go_simp; all_goals (with_reducible rfl)))
  (try simp only [nrm, Act.put])
  first | (refine tk 19 rfl (Or.inr ⟨?_, rfl⟩) ?_; rfl) | (refine tk 19 rfl (v := ?_) (Or.inl ⟨?_, ?_⟩) ?_; rotate_left; rfl; focus (intro w hSw; (try dsimp only at hSw); go_simp; all_goals (with_reducible rfl)))
  (try simp only [nrm, Act.put])
  first | (refine tk 22 rfl (Or.inr ⟨?_, rfl⟩) ?_; rfl) | (refine tk 22 rfl (v := ?_) (Or.inl ⟨?_, ?_⟩) ?_; rotate_left; rfl; focus (intro w hSw; (try dsimp only at hSw); go_simp; all_goals (with_reducible rfl)))
  (try simp only [nrm, Act.put])
  first | (refine tk 23 rfl (Or.inr ⟨?_, rfl⟩) ?_; rfl) | (refine tk 23 rfl (v := ?_) (Or.inl ⟨?_, ?_⟩) ?_; rotate_left; rfl; focus (intro w hSw; (try dsimp only at hSw); go_simp; all_goals (with_reducible rfl)))
  (try simp only [nrm, Act.put])
  refine wpAnyH_ready (rs := [2]) (by kernel_rfl) (by simp) ?_
  refine AllReadyH.cons rfl (fun K hK => ?_) AllReadyH.nil
  go_simp
  refine (text12_walk zs A c 14 (by decide) W8 (HR.out.below HA8.out.below)).mono ?_
  rintro _ W9 ⟨t1, ht1, rfl, hb⟩
  go_simp
  have HA9 := Lib.hid (HA8.out.next hb)
  have HB9 := Lib.hid (below_next HB8.out hb)
  refine hK.out _ _ (HSA.out W9 HB9.out) (fun hHeld2 => ?_)
  clear hK K hHeld hb HA8 HB8
  have hHeld := hHeld2
  clear hHeld2
  (try simp only [nrm, Act.put])
  refine wpAnyH_ready (rs := [25]) (by kernel_rfl) (by simp) ?_
  refine AllReadyH.cons rfl (fun K hK => ?_) AllReadyH.nil
  go_simp
  refine (text12_walk zs A c 6 (by decide) W9 (HR.out.below HA9.out.below)).mono ?_
  rintro _ W10 ⟨t2, ht2, rfl, hb⟩
  go_simp
  have HA10 := Lib.hid (HA9.out.next hb)
  have HB10 := Lib.hid (below_next HB9.out hb)
  refine hK.out _ _ (HSA.out W10 HB10.out) (fun hHeld2 => ?_)
  clear hK K hHeld hb HA9 HB9
  have hHeld := hHeld2
  clear hHeld2
  (try simp only [nrm, Act.put])
  have u1 : ¬ 9223372036854775807 < 1 + t2.size := by omega
  have u2 : ¬ 9223372036854775807 < 1 + t2.size + 1 := by omega
  first | (refine tk 26 rfl (Or.inr ⟨?_, rfl⟩) ?_; rfl) | (refine tk 26 rfl (v := ?_) (Or.inl ⟨?_, ?_⟩) ?_; rotate_left; rfl; focus (intro w hSw; (try dsimp only at hSw); go_simp; all_goals (with_reducible rfl)))
  (try simp only [nrm, Act.put])
  first | (refine tk 27 rfl (Or.inr ⟨?_, rfl⟩) ?_; rfl) | (refine tk 27 rfl (v := ?_) (Or.inl ⟨?_, ?_⟩) ?_; rotate_left; rfl; focus (intro w hSw; (try dsimp only at hSw); go_simp; all_goals (with_reducible rfl)))
  (try simp only [nrm, Act.put])
  refine wpAnyH_ready (rs := [28]) (by kernel_rfl) (by simp) ?_
  refine AllReadyH.cons rfl (fun K hK => ?_) AllReadyH.nil
  go_simp
  obtain ⟨y3, hy3, hy3s⟩ : ∃ y : ByteArray, (⟨#[32, 91]⟩ : ByteArray) ++ sb ++ ⟨#[32, 44, 32]⟩ ++ x ++ ⟨#[93, 9]⟩ = y ∧ y.size ≤ 100000 := ⟨_, rfl, by simp only [ByteArray.size_append]; show 2 + sb.size + 3 + x.size + 2 ≤ _; omega⟩
  obtain ⟨y4, hy4, hy4s⟩ : ∃ y : ByteArray, (⟨#[123, 34, 120, 34, 58]⟩ : ByteArray) ++ sb ++ ⟨#[125]⟩ ++ x = y ∧ y.size ≤ 100000 := ⟨_, rfl, by simp only [ByteArray.size_append]; show 5 + sb.size + 1 + x.size ≤ _; omega⟩
  obtain ⟨y7, hy7, hy7s⟩ : ∃ y : ByteArray, (⟨#[91]⟩ : ByteArray) ++ t2 ++ ⟨#[93]⟩ = y ∧ y.size ≤ 100000 := ⟨_, rfl, by simp only [ByteArray.size_append]; show 1 + t2.size + 1 ≤ _; omega⟩
  rw [hy3, hy4, hy7]
  clear hy3 hy4 hy7
  have HB := Lib.hid (HA10.out.block 9 #[.string x, .string t1, .string sb, .string sy, .string y3, .string y4, .string sk, .string y7])
  refine hK.out _ _ (HSA.out _ (HB10.out.alloc HB10.out.size _)) (fun hHeld2 => ?_)
  clear hK K hHeld HA10 HB10 HSA
  have hHeld := hHeld2
  clear hHeld2
  (try simp only [nrm, Act.put])
  first | (refine tk 29 rfl (Or.inr ⟨?_, rfl⟩) ?_; rfl) | (refine tk 29 rfl (v := ?_) (Or.inl ⟨?_, ?_⟩) ?_; rotate_left; rfl; focus (intro w hSw; (try dsimp only at hSw); go_simp; all_goals (with_reducible rfl)))
  (try simp only [nrm, Act.put])
  refine wpAnyH_done (by kernel_rfl) ?_ _
  generalize W10.alloc (.cells #[.string x, .string t1, .string sb, .string sy, .string y3, .string y4, .string sk, .string y7] 9) = W11 at HB ⊢
  generalize W10.heap.size = gl at HB ⊢
  have hsz1 : t1.size ≤ 100000 := by omega
  clear q1 q2 q3 q4 r1 r2 r3 u1 u2 ht1 ht2 hcx hfx hz hHeld
  go_wp2_with fail
  go_loopw [14] (fun iv wr => ∃ i : Nat, i ≤ 8 ∧ iv = .int .i64 i ∧ Hid (StA w [] [(gl, 9, #[.string x, .string t1, .string sb, .string sy, .string y3, .string y4, .string sk, .string y7])] wr)) (fun iv _ => 8 - (intOf iv).toNat)
  case atStart => exact ⟨0, by omega, rfl, HB⟩
  case round =>
    clear HB
    obtain ⟨i, hi8, rfl, HA⟩ := hrel
    by_cases hi' : i < 8
    case neg =>
      have gi : decide ((i : Int) < 8) = false := by simp; omega
      have gi' : decide (i < 8) = false := by simp; omega
      go_wp2_with fail
      go_ret
      exact ⟨rfl, HA.out.below⟩
    have gi : decide ((i : Int) < 8) = true := by simp; omega
    have gi' : decide (i < 8) = true := by simp; omega
    have giI : (i : Int) < 8 := by omega
    obtain ⟨y, hy, hys⟩ := eight_at i hi' (a0 := x) (a1 := t1) (a2 := sb) (a3 := sy) (a4 := y3) (a5 := y4) (a6 := sk) (a7 := y7) (by omega) (by omega) (by omega) (by omega) (by omega) (by omega) (by omega) (by omega)
    have hcy : wr.cell? ⟨gl, i, none⟩ = some (.string y) := ((HA.out.blks (gl, 9, #[.string x, .string t1, .string sb, .string sy, .string y3, .string y4, .string sk, .string y7]) (by simp)).cell i).trans hy
    obtain ⟨er, zv, hpz⟩ : ∃ er z, parseL y.data.toList = (er, z) := ⟨_, _, rfl⟩
    have HPZ := Lib.hid hpz
    have HY := Lib.hid hy
    clear hy hpz
    go_wp2_with fail
    refine (parse_erw12 y _ er zv rfl HPZ.out (by omega) wr HA.out.laid).mono ?_
    rintro _ w5 ⟨cs5, rfl, hv5, hb5⟩
    obtain ⟨k5, b5, n5, s5, N5, nn5, nc5, A5, m5, c5, rfl⟩ := hv5.form
    have HA5 := Lib.hid ((HA.out.next hb5).value hv5)
    clear hb5 hv5 HA hcy
    have hcy : (w5.alloc (.cells #[.int .i64 k5, .bool b5, .int .i64 n5, .string s5, .slice N5 nn5 nc5, .slice A5 m5 c5] 27)).cell? ⟨gl, i, none⟩ = some (.string y) := ((HA5.out.blks (gl, 9, #[.string x, .string t1, .string sb, .string sy, .string y3, .string y4, .string sk, .string y7]) (by simp)).cell i).trans HY.out
    go_wp2_with fail
    generalize w5.heap.size = gz at HA5 hcy ⊢
    generalize w5.alloc (.cells #[.int .i64 k5, .bool b5, .int .i64 n5, .string s5, .slice N5 nn5 nc5, .slice A5 m5 c5] 27) = W5' at HA5 hcy ⊢
    refine (rparse_erw12 y _ er zv rfl HPZ.out (by omega) W5').mono ?_
    rintro _ w7 ⟨cs7, rfl, hv7, hb7⟩
    obtain ⟨k7, b7, n7, s7, N7, nn7, nc7, A7, m7, c7, rfl⟩ := hv7.form
    have HA7 := Lib.hid ((HA5.out.next hb7).value hv7)
    clear hb7 hv7 HA5 hcy
    obtain ⟨l0, l1, l2, l3, l4, l5⟩ := six_cells (HA7.out.vals (gz, zv, [.int .i64 k5, .bool b5, .int .i64 n5, .string s5, .slice N5 nn5 nc5, .slice A5 m5 c5]) (by simp)).1
    obtain ⟨r0, r1, r2, r3, r4, r5⟩ := six_cells (HA7.out.vals (w7.heap.size, zv, [.int .i64 k7, .bool b7, .int .i64 n7, .string s7, .slice N7 nn7 nc7, .slice A7 m7 c7]) (by simp)).1
    have hne : ((er : Int) != (er : Int)) = false := by simp
    go_wp2_with fail
    generalize w7.heap.size = gu at HA7 l0 l1 l2 l3 l4 l5 r0 r1 r2 r3 r4 r5 ⊢
    generalize w7.alloc (.cells #[.int .i64 k7, .bool b7, .int .i64 n7, .string s7, .slice N7 nn7 nc7, .slice A7 m7 c7] 27) = W8' at HA7 l0 l1 l2 l3 l4 l5 r0 r1 r2 r3 r4 r5 ⊢
    refine (rsame_all zv zv [.int .i64 k5, .bool b5, .int .i64 n5, .string s5, .slice N5 nn5 nc5, .slice A5 m5 c5] [.int .i64 k7, .bool b7, .int .i64 n7, .string s7, .slice N7 nn7 nc7, .slice A7 m7 c7] W8' (HA7.out.vals (gz, zv, [.int .i64 k5, .bool b5, .int .i64 n5, .string s5, .slice N5 nn5 nc5, .slice A5 m5 c5]) (by simp)).2 (HA7.out.vals (gu, zv, [.int .i64 k7, .bool b7, .int .i64 n7, .string s7, .slice N7 nn7 nc7, .slice A7 m7 c7]) (by simp)).2).mono ?_
    rintro _ W9 ⟨rfl, hb9⟩
    rw [(sameJ_iff zv zv).2 rfl]
    have HA9 := Lib.hid ((HA7.out.next hb9).sub (L' := []) (M' := [(gl, 9, #[.string x, .string t1, .string sb, .string sy, .string y3, .string y4, .string sk, .string y7])]) (by simp) (by simp))
    clear hb9 HA7 l0 l1 l2 l3 l4 l5 r0 r1 r2 r3 r4 r5
    go_wp2_with fail
    exact ⟨⟨i + 1, by omega, by go_num, HA9⟩, by simp [intOf]; omega⟩
end Go.Proofs.YtokgkifckgnabaaGreatDoor
