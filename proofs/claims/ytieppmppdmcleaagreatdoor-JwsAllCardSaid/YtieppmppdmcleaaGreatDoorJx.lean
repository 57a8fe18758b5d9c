/- json's parser: its box, blanks, escaped. Condition: a text of at most 1000000 bytes. -/
import Derived.Test.YtieppmppdmcleaaGreatDoorJw
import Derived.Test.YtieppmppdmcleaaGreatDoorBD
set_option linter.unusedVariables false
set_option linter.unusedSimpArgs false
set_option maxRecDepth 20000
set_option maxHeartbeats 4000000
namespace Go.Proofs.YtieppmppdmcleaaGreatDoor
open Go.RowKit
def PAt (w : World) (g : Nat) (s : ByteArray) (p : Nat) : Prop := Blk w g 104 #[.string s, .int .i64 (p : Int)] ∧ p ≤ s.size ∧ s.size ≤ 1000000
section
variable {w w' : World} {g p : Nat} {s : ByteArray}
theorem PAt.lt (h : PAt w g s p) : g < w.heap.size := h.1.lt
theorem PAt.below (h : PAt w g s p) (hb : Below w.heap.size w w') : PAt w' g s p := ⟨h.1.below hb h.1.lt, h.2⟩
theorem PAt.grown (h : PAt w g s p) {row : Option Nat} (hb : w.grownBy w' row) (hg : some g ≠ row) : PAt w' g s p := ⟨h.1.grown hb hg, h.2⟩
theorem PAt.dn (h : PAt w g s p) (n : Nat) : PAt (w.drewN n) g s p := h
theorem PAt.facts (h : PAt w g s p) : w.cell? ⟨g, 0, none⟩ = some (.string s) ∧ w.cell? ⟨g, 1, none⟩ = some (.int .i64 (p : Int)) ∧ w.frozen? ⟨g, 1, none⟩ = false := ⟨h.1.cell 0, h.1.cell 1, h.1.frozen 1⟩
theorem PAt.put (h : PAt w g s p) (q : Nat) (hq : q ≤ s.size) : PAt (w.setCell ⟨g, 1, none⟩ (.int .i64 (q : Int))) g s q ∧ w.grownBy (w.setCell ⟨g, 1, none⟩ (.int .i64 (q : Int))) (some g) := by
 refine ⟨⟨?_, hq, h.2.2⟩, ⟨rfl, rfl, rfl, by simp, fun i _ hne => Below.heap_setCell _ _ _ _ (fun e => hne (by rw [e]))⟩⟩
 have := h.1.set_ 1 (.int .i64 (q : Int))
 simpa using this
end
theorem grown_dn {a b : World} {row : Option Nat} (h : a.grownBy b row) (n : Nat) : a.grownBy (b.drewN n) row := ⟨h.os, h.tape, h.output, h.size, h.block⟩
theorem grown_then {a b c : World} {g : Nat} {row : Option Nat} (h : a.grownBy b (some g)) (k : b.grownBy c row) (hr : ∀ q, row = some q → q = g ∨ a.heap.size ≤ q) : a.grownBy c (some g) :=
 ⟨k.os.trans h.os, k.tape.trans h.tape, k.output.trans h.output, Nat.le_trans h.size k.size, fun i hi hne => (k.block i (Nat.lt_of_lt_of_le hi h.size) (fun e => by rcases hr i e.symm with h1 | h1; exact hne (by rw [h1]); omega)).trans (h.block i hi hne)⟩
theorem grown_below2 {a b c : World} {g : Nat} (h : a.grownBy b (some g)) (k : Below b.heap.size b c) : a.grownBy c (some g) := grown_then h (below_row k none) (fun q e => by cases e)
theorem blank_idx (c : Nat) (hc : c < 256) : ∃ z : Int, Hid (Lib.indexByte (ByteArray.mk #[9, 10, 13, 32]).data.toList ((c : Int).toNat.toUInt8) = z) ∧ Hid (decide (0 ≤ z) = isBlank (UInt8.ofNat c)) := by
 have : ∀ c : Fin 256, decide (0 ≤ Lib.indexByte [9, 10, 13, 32] (c.val.toUInt8)) = isBlank (UInt8.ofNat c.val) := by decide +kernel
 exact ⟨_, rfl, this ⟨c, hc⟩⟩
theorem drop_cons {s : ByteArray} {k b : Nat} (hk : k < s.size) (hb : (s[k]'hk).toNat = b) : s.data.toList.drop k = UInt8.ofNat b :: s.data.toList.drop (k + 1) := by
 rw [List.drop_eq_getElem_cons (by simpa using hk)]
 congr 1
 rw [← hb]
 simp
 rfl
theorem drop_end {s : ByteArray} {k : Nat} (hk : ¬ k < s.size) : s.data.toList.drop k = [] := List.drop_eq_nil_of_le (by rw [show s.data.toList.length = s.size by simp]; omega)
def BlanksR (g : Nat) (s : ByteArray) (p : Nat) (w : World) (e : Ending) (w' : World) : Prop := ∃ q, e = .returned (.tuple #[]) ∧ PAt w' g s q ∧ s.data.toList.drop q = skipB (s.data.toList.drop p) ∧ w.grownBy w' (some g)
theorem blanks_walk (g : Nat) (s : ByteArray) (p : Nat) (w : World) (h : PAt w g s p) :
  Calls Tryz.prog 76 #[.pointer (some ⟨g, 0, none⟩)] w (BlanksR g s p w) := by
 have H := Lib.hid h
 have hsm := h.2.2
 have hp := h.2.1
 clear h
 go_enter Tryz.func76, Tryz.ntmps76
 go_wp2_with fail
 go_loopw [2] (fun _ wr => ∃ q, q ≤ s.size ∧ Hid (PAt wr g s q) ∧ Hid (skipB (s.data.toList.drop p) = skipB (s.data.toList.drop q)) ∧ Hid (w.grownBy wr (some g))) (fun _ wr => s.size - (match wr.cell? ⟨g, 1, none⟩ with | some (.int _ n) => n.toNat | _ => 0))
 case atStart => exact ⟨p, hp, H, rfl, only_refl _ _⟩
 case round =>
  clear H
  obtain ⟨q, hq, hP, hs, hg⟩ := hrel
  obtain ⟨c0, c1, f1⟩ := hP.out.facts
  by_cases hlt : q < s.size
  ·
   obtain ⟨b, eb, hb2⟩ : ∃ b : Nat, (s[q]'hlt).toNat = b ∧ b < 256 := ⟨_, rfl, (s[q]'hlt).toNat_lt⟩
   have hd := drop_cons hlt eb
   obtain ⟨z, hz1, hz2⟩ := blank_idx b hb2
   have ci := fun W => Tryz.strings_IndexByte ⟨#[9, 10, 13, 32]⟩ (b : Int) W
   rw [hz1.out] at ci
   have CI := Lib.hid ci
   have i1 := fun W => run_index_at (P := Tryz.prog) 9 Tryz.underlying9 s q b hlt eb W
   clear ci
   cases hbl : isBlank (UInt8.ofNat b)
   ·
    have hz : decide (0 ≤ z) = false := hz2.out.trans hbl
    have hv : Hid (s.data.toList.drop q = skipB (s.data.toList.drop p)) := by
     show _ = _
     rw [hs.out, hd, skipB, List.dropWhile_cons_of_neg (by simp [hbl])]
    clear hd hbl
    go_wp2_with fail
    go_quiet ((go_at_call 103; refine (CI.out _).mono ?_; rintro e w9 ⟨rfl, rfl⟩; exact ⟨rfl, _, rfl⟩))
    go_wp2_with fail
    refine bodyPost_end (results_none rfl _ _ _) rfl ?_
    exact ⟨q, rfl, hP.out.dn nq, hv.out, grown_dn hg.out nq⟩
   ·
    have hz : decide (0 ≤ z) = true := hz2.out.trans hbl
    have hv : Hid (skipB (s.data.toList.drop p) = skipB (s.data.toList.drop (q + 1))) := by
     show _ = _
     rw [hs.out, hd, skipB, List.dropWhile_cons_of_pos (by simp [hbl])]
     rfl
    have hq1 : Hid ((q : Int) + 1 = ((q + 1 : Nat) : Int)) := by show _ = _; omega
    have HPN := fun n => (hP.out.dn n).put (q + 1) (by omega)
    have HPH := Lib.hid HPN
    clear hd hbl HPN
    go_wp2_with fail
    go_quiet ((go_at_call 103; refine (CI.out _).mono ?_; rintro e w9 ⟨rfl, rfl⟩; exact ⟨rfl, _, rfl⟩))
    have hput := HPH.out nq
    rw [← hq1.out] at hput
    have hgg := grown_then (grown_dn hg.out nq) hput.2 (fun q e => by injection e with e; exact .inl e.symm)
    have hcell := hput.1.facts.2.1
    have HA := Lib.hid hput.1
    have HG := Lib.hid hgg
    clear hput hgg
    go_wp2_with fail
    refine ⟨⟨q + 1, by omega, HA, hv, HG⟩, ?_⟩
    rw [hcell, c1]
    simp
    omega
  ·
   obtain rfl : q = s.size := by omega
   have hv : Hid (s.data.toList.drop s.size = skipB (s.data.toList.drop p)) := by
    show _ = _
    rw [hs.out, drop_end (Nat.lt_irrefl _)]; rfl
   go_wp2_with fail
   go_quiet (fail)
   go_wp2_with fail
   refine bodyPost_end (results_none rfl _ _ _) rfl ?_
   exact ⟨s.size, rfl, hP.out.dn nq, hv.out, grown_dn hg.out nq⟩
def escV : Option (UInt8 × Nat) → Value
 | some (b, n) => .tuple #[.int .u8 (b.toNat : Int), .int .i64 (n : Int)]
 | none => .tuple #[.int .u8 0, .int .i64 0]
def smallI (c : Nat) : Int := match smallN (UInt8.ofNat c) with | some x => (x : Int) | none => -1
def twoI (c : Nat) : Int := match smallN (UInt8.ofNat c) with | some x => if x ≤ 1 then (x : Int) else -1 | none => -1
theorem hex_idx (c : Nat) (hc : c < 256) : Lib.indexByte (ByteArray.mk #[48, 49, 50, 51, 52, 53, 54, 55, 56, 57, 97, 98, 99, 100, 101, 102]).data.toList ((c : Int).toNat.toUInt8) = smallI c := by
 have : ∀ c : Fin 256, Lib.indexByte [48, 49, 50, 51, 52, 53, 54, 55, 56, 57, 97, 98, 99, 100, 101, 102] (c.val.toUInt8) = smallI c.val := by decide +kernel
 exact this ⟨c, hc⟩
theorem two_idx (c : Nat) (hc : c < 256) : Lib.indexByte (ByteArray.mk #[48, 49]).data.toList ((c : Int).toNat.toUInt8) = twoI c := by
 have : ∀ c : Fin 256, Lib.indexByte [48, 49] (c.val.toUInt8) = twoI c.val := by decide +kernel
 exact this ⟨c, hc⟩
theorem smallN_lt (c : Nat) (hc : c < 256) (x : Nat) (h : smallN (UInt8.ofNat c) = some x) : x < 16 := by
 have : ∀ c : Fin 256, (smallN (UInt8.ofNat c.val)).getD 0 < 16 := by decide +kernel
 have h2 := this ⟨c, hc⟩
 simp only [h] at h2
 exact h2
theorem or_hex : ∀ (x : Fin 2) (y : Fin 16), IntKind.u8.wrap (bits .or .i64 ((x.val : Int) * 16) (y.val : Int)) = ((x.val * 16 + y.val : Nat) : Int) := by decide +kernel
theorem front5 {l : List UInt8} (h : 5 ≤ l.length) : ∃ a b c d e r, l = a :: b :: c :: d :: e :: r := by
 match l, h with
 | a :: b :: c :: d :: e :: r, _ => exact ⟨a, b, c, d, e, r, rfl⟩
theorem escR_no {c0 c1 c2 c3 c4 : UInt8} {r : List UInt8} (hq : ¬ (c0 = 34 ∨ c0 = 92)) (h : ¬ (c0 = 117 ∧ c1 = 48 ∧ c2 = 48)) : escR (c0 :: c1 :: c2 :: c3 :: c4 :: r) = none := by
 rw [escR, if_neg hq]
 split
 ·
  rename_i he
  injection he with h1 he
  injection he with h2 he
  injection he with h3 he
  exact absurd ⟨h1, h2, h3⟩ h
 ·
  rfl
theorem escR_hex (c3 c4 : UInt8) (r : List UInt8) : escR (117 :: 48 :: 48 :: c3 :: c4 :: r) = match smallN c3, smallN c4 with
   | some x, some y => if x ≤ 1 then some (UInt8.ofNat (x * 16 + y), 5) else none
   | _, _ => none := by
 rw [escR, if_neg (by decide)]
 rfl
theorem escaped_walk (s : ByteArray) (l : List UInt8) (hs : s.data.toList = l) (w : World) (hm : s.size ≤ 1000000) :
  Calls Tryz.prog 133 #[.string s] w fun e w' => e = .returned (escV (escR l)) ∧ ∃ n, w' = w.drewN n := by
 have hsz : l.length = s.size := by rw [← hs]; simp
 by_cases h0 : s.size = 0
 ·
  have hl0 : l = [] := List.eq_nil_of_length_eq_zero (by omega)
  have hv : Hid (escR l = none) := by show _ = _; rw [hl0]; rfl
  have e1 : s = ⟨#[]⟩ := by
   have := str_eta s l hs
   rw [hl0] at this
   exact this
  subst e1
  clear h0 hl0 hs hsz
  go_enter Tryz.func133, Tryz.ntmps133
  go_wp2_with fail
  go_ret2
  exact ⟨by rw [hv.out]; rfl, 0, rfl⟩
 have hls : 0 < s.size := by omega
 obtain ⟨b, eb, hb2⟩ : ∃ b : Nat, (s[0]'hls).toNat = b ∧ b < 256 := ⟨_, rfl, (s[0]'hls).toNat_lt⟩
 have hd := drop_cons hls eb
 rw [List.drop_zero, hs] at hd
 obtain ⟨r, hr⟩ : ∃ r, l = UInt8.ofNat b :: r := ⟨_, hd⟩
 have hne := str_ne h0
 have hne1 := hne.1
 have hne2 := hne.2
 have i0 := fun W => run_index_at (P := Tryz.prog) 9 Tryz.underlying9 s 0 b hls eb W
 have hemp : (s.toList == []) = false := by simpa using hne2
 clear h0 hd hne
 by_cases hq : b = 34 ∨ b = 92
 ·
  have hv : Hid (escR l = some (UInt8.ofNat b, 1)) := by
   show _ = _
   rw [hr, escR, if_pos]
   rcases hq with rfl | rfl
   ·
    left; rfl
   ·
    right; rfl
  have hdd : ((b : Int) == 34) = true ∨ ((b : Int) == 34) = false ∧ ((b : Int) == 92) = true := by
   rcases hq with h | h
   ·
    left; simp; omega
   ·
    right; constructor <;> (simp; omega)
  clear hq hr hs
  rcases hdd with d1 | ⟨d1, d2⟩
  all_goals
   go_enter Tryz.func133, Tryz.ntmps133
   go_wp2_with fail
   go_ret2
   exact ⟨by rw [hv.out, escV]; simp; omega, 0, rfl⟩
 have d1 : ((b : Int) == 34) = false := by simp; omega
 have d2 : ((b : Int) == 92) = false := by simp; omega
 have hqn : ¬ (UInt8.ofNat b = 34 ∨ UInt8.ofNat b = 92) := by simp [← UInt8.toNat_inj]; omega
 by_cases h5 : s.size < 5
 ·
  have hv : Hid (escR l = none) := by
   show _ = _
   rw [hr, escR, if_neg hqn]
   split
   ·
    rename_i he
    have h1 := congrArg List.length he
    rw [hr] at hsz
    simp at h1 hsz
    omega
   ·
    rfl
  have d5 : decide ((s.size : Int) < 5) = true := by simp; omega
  have d5' : decide (s.size < 5) = true := by simp; omega
  clear hr hs hsz h5
  go_enter Tryz.func133, Tryz.ntmps133
  go_wp2_with fail
  go_ret2
  exact ⟨by rw [hv.out]; rfl, 0, rfl⟩
 have d5 : decide ((s.size : Int) < 5) = false := by simp; omega
 have d5' : decide (s.size < 5) = false := by simp; omega
 obtain ⟨c0, c1, c2, c3, c4, r5, hl5⟩ := front5 (l := l) (by omega)
 have hb0 : UInt8.ofNat b = c0 := by rw [hl5] at hr; injection hr with h _; exact h.symm
 rw [hb0] at hqn
 have hat : ∀ k (hk : k < s.size), (s[k]'hk).toNat = (l.getD k 0).toNat := fun k hk => str_at hs hk
 have h13 : (s.extract 0 3).data.toList = [c0, c1, c2] := by
  rw [Lib.extract_data, hs, hl5]; simp
 have ht3 : (s.extract 0 3).toList = [c0, c1, c2] := by rw [ByteArray.toList_eq]; exact h13
 by_cases hu : c0 = 117 ∧ c1 = 48 ∧ c2 = 48
 case neg =>
  have hv : Hid (escR l = none) := by show _ = _; rw [hl5]; exact escR_no hqn hu
  have hn1 : (([c0, c1, c2] : List UInt8) == [117, 48, 48]) = false := by
   rw [beq_eq_false_iff_ne]; intro e; injection e with e1 e; injection e with e2 e; injection e with e3 e; exact hu ⟨e1, e2, e3⟩
  have hn5 : ((s.extract 0 3).toList == [117, 48, 48]) = false := by rw [ht3]; exact hn1
  have h3s : (3 : Int) ≤ (s.size : Int) := by omega
  have h3s' : 3 ≤ s.size := by omega
  clear hr hs hl5 hat h13 ht3 hu hb0 hsz
  go_enter Tryz.func133, Tryz.ntmps133
  go_wp2_with fail
  go_ret2
  exact ⟨by rw [hv.out]; rfl, 0, rfl⟩
 obtain ⟨rfl, rfl, rfl⟩ := hu
 obtain ⟨a3, ea3, ha3, ha32⟩ : ∃ a : Nat, (s[3]'(by omega)).toNat = a ∧ c3 = UInt8.ofNat a ∧ a < 256 := ⟨_, rfl, by rw [hat 3 (by omega), hl5]; simp, (s[3]'(by omega)).toNat_lt⟩
 obtain ⟨a4, ea4, ha4, ha42⟩ : ∃ a : Nat, (s[4]'(by omega)).toNat = a ∧ c4 = UInt8.ofNat a ∧ a < 256 := ⟨_, rfl, by rw [hat 4 (by omega), hl5]; simp, (s[4]'(by omega)).toNat_lt⟩
 have hv0 : escR l = match smallN (UInt8.ofNat a3), smallN (UInt8.ofNat a4) with
   | some x, some y => if x ≤ 1 then some (UInt8.ofNat (x * 16 + y), 5) else none
   | _, _ => none := by rw [hl5, escR_hex, ha3, ha4]
 have hn5 : ((s.extract 0 3).toList == [117, 48, 48]) = true := by rw [ht3]; rfl
 have h3s : (3 : Int) ≤ (s.size : Int) := by omega
 have h3s' : 3 ≤ s.size := by omega
 have i3 := fun W => run_index_at (P := Tryz.prog) 9 Tryz.underlying9 s 3 a3 (by omega) ea3 W
 have i4 := fun W => run_index_at (P := Tryz.prog) 9 Tryz.underlying9 s 4 a4 (by omega) ea4 W
 have cc1 := fun W => Tryz.strings_IndexByte ⟨#[48, 49]⟩ (a3 : Int) W
 have cc2 := fun W => Tryz.strings_IndexByte ⟨#[48, 49, 50, 51, 52, 53, 54, 55, 56, 57, 97, 98, 99, 100, 101, 102]⟩ (a4 : Int) W
 simp only [two_idx a3 ha32] at cc1
 simp only [hex_idx a4 ha42] at cc2
 have CC1 := Lib.hid cc1
 have CC2 := Lib.hid cc2
 have hfr : (⟨#[48, 49, 50, 51, 52, 53, 54, 55, 56, 57, 97, 98, 99, 100, 101, 102]⟩ : ByteArray).extract 0 2 = ⟨#[48, 49]⟩ := by decide +kernel
 obtain ⟨z1, hz1⟩ : ∃ z, twoI a3 = z := ⟨_, rfl⟩
 obtain ⟨z2, hz2⟩ : ∃ z, smallI a4 = z := ⟨_, rfl⟩
 rw [hz1] at CC1
 rw [hz2] at CC2
 have hcase : (z1 = -1 ∧ escR l = none) ∨ (0 ≤ z1 ∧ z2 = -1 ∧ escR l = none) ∨ ∃ (x : Fin 2) (y : Fin 16), z1 = (x.val : Int) ∧ z2 = (y.val : Int) ∧ escR l = some (UInt8.ofNat (x.val * 16 + y.val), 5) := by
  unfold twoI at hz1
  unfold smallI at hz2
  cases h3 : smallN (UInt8.ofNat a3) with
  | none => rw [h3] at hz1 hv0; exact .inl ⟨hz1.symm, hv0⟩
  | some x =>
   rw [h3] at hz1 hv0
   cases h4 : smallN (UInt8.ofNat a4) with
   | none =>
    rw [h4] at hz2 hv0
    simp only at hz1 hz2 hv0
    split at hz1
    ·
     right; left; exact ⟨by omega, hz2.symm, hv0⟩
    ·
     left; exact ⟨hz1.symm, hv0⟩
   | some y =>
    have hy := smallN_lt a4 ha42 y h4
    rw [h4] at hz2 hv0
    simp only at hz1 hz2 hv0
    by_cases hx : x ≤ 1
    ·
     rw [if_pos hx] at hz1 hv0
     right; right
     exact ⟨⟨x, by omega⟩, ⟨y, hy⟩, hz1.symm, hz2.symm, hv0⟩
    ·
     rw [if_neg hx] at hz1 hv0
     left; exact ⟨hz1.symm, hv0⟩
 have HCS := Lib.hid hcase
 clear hr hs hl5 hat h13 ht3 hb0 cc1 cc2 hz1 hz2 hv0 hcase ha3 ha4 hqn
 rcases HCS.out with ⟨e1, hv⟩ | ⟨e1, e2, hv⟩ | ⟨x, y, e1, e2, hv⟩
 ·
  have HV := Lib.hid hv
  subst e1
  clear hv HCS
  go_enter Tryz.func133, Tryz.ntmps133
  go_wp2_with fail
  go_quiet ((go_at_call 103; first | (with_reducible refine (CC1.out _).mono ?_; rintro e w9 ⟨rfl, rfl⟩; exact ⟨rfl, _, rfl⟩) | (with_reducible refine (CC2.out _).mono ?_; rintro e w9 ⟨rfl, rfl⟩; exact ⟨rfl, _, rfl⟩)))
  go_wp2_with fail
  go_ret2
  exact ⟨by rw [HV.out]; rfl, nq, rfl⟩
 ·
  have HV := Lib.hid hv
  subst e2
  have g1 : decide (z1 < 0) = false := by simp; omega
  clear hv HCS
  go_enter Tryz.func133, Tryz.ntmps133
  go_wp2_with fail
  go_quiet ((go_at_call 103; first | (with_reducible refine (CC1.out _).mono ?_; rintro e w9 ⟨rfl, rfl⟩; exact ⟨rfl, _, rfl⟩) | (with_reducible refine (CC2.out _).mono ?_; rintro e w9 ⟨rfl, rfl⟩; exact ⟨rfl, _, rfl⟩)))
  go_wp2_with fail
  go_ret2
  exact ⟨by rw [HV.out]; rfl, nq, rfl⟩
 ·
  have HV := Lib.hid hv
  have hor := or_hex x y
  have hlt : x.val * 16 + y.val < 256 := by have := x.isLt; have := y.isLt; omega
  obtain ⟨x, hx⟩ := x
  obtain ⟨y, hy⟩ := y
  simp only at e1 e2 hor hlt HV
  subst e1 e2
  clear hv HCS
  go_enter Tryz.func133, Tryz.ntmps133
  go_wp2_with fail
  go_quiet ((go_at_call 103; first | (with_reducible refine (CC1.out _).mono ?_; rintro e w9 ⟨rfl, rfl⟩; exact ⟨rfl, _, rfl⟩) | (with_reducible refine (CC2.out _).mono ?_; rintro e w9 ⟨rfl, rfl⟩; exact ⟨rfl, _, rfl⟩)))
  go_wp2_with fail
  go_ret2
  exact ⟨by rw [HV.out, escV]; simp; omega, nq, rfl⟩
end Go.Proofs.YtieppmppdmcleaaGreatDoor
