/- countersignref12's reader: many, at the depth where nothing more is read. Condition: a text of at most 1000000 bytes. -/
import Derived.Test.YtieppmppdmcleaaGreatDoorOf
set_option linter.unusedVariables false
set_option linter.unusedSimpArgs false
set_option maxRecDepth 20000
set_option maxHeartbeats 16000000
namespace Go.Proofs.YtieppmppdmcleaaGreatDoor
open Go.RowKit Go.Maps
structure MSt (g : Nat) (s : ByteArray) (q e : Nat) (kind : Int) (w : World) (W : World) : Prop where
 at_ : RAt W g s q e
 grown : w.grownBy W (some g)
 res : Blk W w.heap.size 26 #[.int .i64 0, .bool false, .int .i64 0, .string ⟨#[]⟩, .slice none 0 0, .slice none 0 0]
 blk : Blk W (w.heap.size + 1) 26 #[.int .i64 kind, .bool false, .int .i64 0, .string ⟨#[]⟩, .slice none 0 0, .slice none 0 0]
 lt : g < w.heap.size
theorem MSt.call {g q e q' e' : Nat} {s : ByteArray} {kind : Int} {w W W' : World} (h : MSt g s q e kind w W) (hg : W.grownBy W' (some g)) (ha : RAt W' g s q' e') : MSt g s q' e' kind w W' :=
 ⟨ha, grown_then h.grown hg (fun q e => .inl (by injection e with e; exact e.symm)), h.res.grown hg (fun e => by injection e with e; have := h.lt; omega), h.blk.grown hg (fun e => by injection e with e; have := h.lt; omega), h.lt⟩
theorem MSt.dn {g q e : Nat} {s : ByteArray} {kind : Int} {w W : World} (h : MSt g s q e kind w W) (n : Nat) : MSt g s q e kind w (W.drewN n) := ⟨h.at_.dn n, grown_dn h.grown n, h.res, h.blk, h.lt⟩
theorem MSt.new {g q e : Nat} {s : ByteArray} (kind : Int) {w : World} (h : RAt w g s q e) : MSt g s q e kind w ((w.alloc (.cells #[.int .i64 0, .bool false, .int .i64 0, .string ⟨#[]⟩, .slice none 0 0, .slice none 0 0] 26)).alloc (.cells #[.int .i64 kind, .bool false, .int .i64 0, .string ⟨#[]⟩, .slice none 0 0, .slice none 0 0] 26)) := by
 have h1 := (Below.refl w.heap.size w).alloc (Nat.le_refl _) (.cells #[.int .i64 0, .bool false, .int .i64 0, .string ⟨#[]⟩, .slice none 0 0, .slice none 0 0] 26)
 have h2 := h1.alloc (by simp) (.cells #[.int .i64 kind, .bool false, .int .i64 0, .string ⟨#[]⟩, .slice none 0 0, .slice none 0 0] 26)
 refine ⟨h.below h2, only_alloc (only_alloc (only_refl w (some g)) _) _, (Blk.new w 26 #[.int .i64 0, .bool false, .int .i64 0, .string ⟨#[]⟩, .slice none 0 0, .slice none 0 0]).below ((Below.refl (w.heap.size + 1) _).alloc (by simp) _) (by omega), ?_, h.lt⟩
 have := Blk.new (w.alloc (.cells #[.int .i64 0, .bool false, .int .i64 0, .string ⟨#[]⟩, .slice none 0 0, .slice none 0 0] 26)) 26 #[.int .i64 kind, .bool false, .int .i64 0, .string ⟨#[]⟩, .slice none 0 0, .slice none 0 0]
 simpa using this
theorem MSt.set_ {g q e : Nat} {s : ByteArray} {kind : Int} {w W : World} (h : MSt g s q e kind w W) (cells : Array Value) : RAt (W.setRow w.heap.size cells) g s q e ∧ w.grownBy (W.setRow w.heap.size cells) (some g) := by
 have hsr := setRow_only W w.heap.size cells
 have hl := h.lt
 exact ⟨h.at_.grown hsr (by simp; omega), grown_then h.grown hsr (fun q e => .inr (by injection e with e; omega))⟩
theorem rmany0 : RManyOk 0 := by
 intro g s p deep kind w hR hps hdd hk
 obtain rfl : deep = 8 := by omega
 have hsm := hR.2.2
 rcases hk with hk | hk
 ·
  subst hk
  have HM0 := Lib.hid (MSt.new 5 hR)
  have cf := fail_walk g s p 0 4 _ HM0.out.at_
  rw [if_pos rfl] at cf
  have CF := Lib.hid cf
  have hps2 : p + 1 ≤ s.size := hps
  clear cf hR
  go_enter Tryz.func83, Tryz.ntmps83
  go_wp2_with fail
  refine CF.out.mono ?_
  rintro _ w1 ⟨rfl, hR1, hg1⟩
  have HM1 := Lib.hid (HM0.out.call hg1 hR1)
  clear hR1 hg1 CF HM0
  obtain ⟨c0, c1, f1, c2, f2⟩ := HM1.out.at_.facts
  have hput := HM1.out.at_.put (p + 1) hps2
  have hp1 : Hid ((p : Int) + 1 = ((p + 1 : Nat) : Int)) := by show _ = _; omega
  rw [← hp1.out] at hput
  have HM2 := Lib.hid (HM1.out.call hput.2 hput.1)
  have cb := Lib.hid (rblanks_walk g s (p + 1) 4 _ HM2.out.at_)
  clear hput HM1
  go_wp2_with fail
  refine cb.out.mono ?_
  rintro _ w2 ⟨q, rfl, hR2, -, hg2⟩
  have HM3 := Lib.hid (HM2.out.call hg2 hR2)
  clear hR2 hg2 cb HM2 c0 c1 f1 c2 f2
  have ca := Lib.hid (at_walk g s q 4 93 _ HM3.out.at_)
  go_wp2_with fail
  refine ca.out.mono ?_
  rintro _ w3 ⟨rfl, n1, rfl⟩
  have HM4 := Lib.hid (HM3.out.dn n1)
  obtain ⟨c0, c1, f1, c2, f2⟩ := HM4.out.at_.facts
  clear ca HM3
  cases hb : atB (s.data.toList.drop q) 93
  ·
   go_wp2_with fail
   go_loopw [] (fun wr => wr = w2.drewN n1) (fun _ => 0)
   case atStart => rfl
   case round =>
    subst hrel
    obtain ⟨l0, l1, l2, l3, l4, l5⟩ := six_cells HM4.out.blk
    go_wp2_with (first | refine wpList_load_at rfl 26 _ rfl ⟨w.heap.size + 1, 0, none⟩ rfl [.int .i64 5, .bool false, .int .i64 0, .string ⟨#[]⟩, .slice none 0 0, .slice none 0 0] _ (blk_cells HM4.out.blk) Tryz.underlying26 rfl jv_size ?_ | refine wpList_store_blk rfl 26 _ _ rfl w.heap.size _ #[.int .i64 5, .bool false, .int .i64 0, .string ⟨#[]⟩, .slice none 0 0, .slice none 0 0] 26 rfl rfl HM4.out.res rfl jv_size (jv_ones _ _ _ _ _ _ _ _ _ _) ?_)
    refine bodyPost_ret (results_cell_row Tryz.results83 _ _ w.heap.size _ _ _ _ rfl HM4.out.res.setRow Tryz.underlying26 rfl (by kernel_rfl)) rfl ?_
    exact rvalR_err rfl _ _ _ _ _ _ _ _ _ _ rfl (HM4.out.set_ _).2 (HM4.out.set_ _).1
  ·
   obtain ⟨r, hr⟩ := atB_true hb
   have hq1 := (drop_succ hr).1
   have hput := HM4.out.at_.put (q + 1) hq1
   have hp2 : Hid ((q : Int) + 1 = ((q + 1 : Nat) : Int)) := by show _ = _; omega
   rw [← hp2.out] at hput
   have HM5 := Lib.hid (HM4.out.call hput.2 hput.1)
   clear hput hr hb
   obtain ⟨l0, l1, l2, l3, l4, l5⟩ := six_cells HM5.out.blk
   go_wp2_with (first | refine wpList_load_at rfl 26 _ rfl ⟨w.heap.size + 1, 0, none⟩ rfl [.int .i64 5, .bool false, .int .i64 0, .string ⟨#[]⟩, .slice none 0 0, .slice none 0 0] _ (blk_cells HM5.out.blk) Tryz.underlying26 rfl jv_size ?_ | refine wpList_store_blk rfl 26 _ _ rfl w.heap.size _ #[.int .i64 5, .bool false, .int .i64 0, .string ⟨#[]⟩, .slice none 0 0, .slice none 0 0] 26 rfl rfl HM5.out.res rfl jv_size (jv_ones _ _ _ _ _ _ _ _ _ _) ?_)
   refine bodyPost_ret (results_cell_row Tryz.results83 _ _ w.heap.size _ _ _ _ rfl HM5.out.res.setRow Tryz.underlying26 rfl (by kernel_rfl)) rfl ?_
   exact rvalR_err rfl _ _ _ _ _ _ _ _ _ _ rfl (HM5.out.set_ _).2 (HM5.out.set_ _).1
 ·
  subst hk
  have HM0 := Lib.hid (MSt.new 6 hR)
  have cf := fail_walk g s p 0 4 _ HM0.out.at_
  rw [if_pos rfl] at cf
  have CF := Lib.hid cf
  have hps2 : p + 1 ≤ s.size := hps
  clear cf hR
  go_enter Tryz.func83, Tryz.ntmps83
  go_wp2_with fail
  refine CF.out.mono ?_
  rintro _ w1 ⟨rfl, hR1, hg1⟩
  have HM1 := Lib.hid (HM0.out.call hg1 hR1)
  clear hR1 hg1 CF HM0
  obtain ⟨c0, c1, f1, c2, f2⟩ := HM1.out.at_.facts
  have hput := HM1.out.at_.put (p + 1) hps2
  have hp1 : Hid ((p : Int) + 1 = ((p + 1 : Nat) : Int)) := by show _ = _; omega
  rw [← hp1.out] at hput
  have HM2 := Lib.hid (HM1.out.call hput.2 hput.1)
  have cb := Lib.hid (rblanks_walk g s (p + 1) 4 _ HM2.out.at_)
  clear hput HM1
  go_wp2_with fail
  refine cb.out.mono ?_
  rintro _ w2 ⟨q, rfl, hR2, -, hg2⟩
  have HM3 := Lib.hid (HM2.out.call hg2 hR2)
  clear hR2 hg2 cb HM2 c0 c1 f1 c2 f2
  have ca := Lib.hid (at_walk g s q 4 125 _ HM3.out.at_)
  go_wp2_with fail
  refine ca.out.mono ?_
  rintro _ w3 ⟨rfl, n1, rfl⟩
  have HM4 := Lib.hid (HM3.out.dn n1)
  obtain ⟨c0, c1, f1, c2, f2⟩ := HM4.out.at_.facts
  clear ca HM3
  cases hb : atB (s.data.toList.drop q) 125
  ·
   go_wp2_with fail
   go_loopw [] (fun wr => wr = w2.drewN n1) (fun _ => 0)
   case atStart => rfl
   case round =>
    subst hrel
    obtain ⟨l0, l1, l2, l3, l4, l5⟩ := six_cells HM4.out.blk
    go_wp2_with (first | refine wpList_load_at rfl 26 _ rfl ⟨w.heap.size + 1, 0, none⟩ rfl [.int .i64 6, .bool false, .int .i64 0, .string ⟨#[]⟩, .slice none 0 0, .slice none 0 0] _ (blk_cells HM4.out.blk) Tryz.underlying26 rfl jv_size ?_ | refine wpList_store_blk rfl 26 _ _ rfl w.heap.size _ #[.int .i64 6, .bool false, .int .i64 0, .string ⟨#[]⟩, .slice none 0 0, .slice none 0 0] 26 rfl rfl HM4.out.res rfl jv_size (jv_ones _ _ _ _ _ _ _ _ _ _) ?_)
    refine bodyPost_ret (results_cell_row Tryz.results83 _ _ w.heap.size _ _ _ _ rfl HM4.out.res.setRow Tryz.underlying26 rfl (by kernel_rfl)) rfl ?_
    exact rvalR_err rfl _ _ _ _ _ _ _ _ _ _ rfl (HM4.out.set_ _).2 (HM4.out.set_ _).1
  ·
   obtain ⟨r, hr⟩ := atB_true hb
   have hq1 := (drop_succ hr).1
   have hput := HM4.out.at_.put (q + 1) hq1
   have hp2 : Hid ((q : Int) + 1 = ((q + 1 : Nat) : Int)) := by show _ = _; omega
   rw [← hp2.out] at hput
   have HM5 := Lib.hid (HM4.out.call hput.2 hput.1)
   clear hput hr hb
   obtain ⟨l0, l1, l2, l3, l4, l5⟩ := six_cells HM5.out.blk
   go_wp2_with (first | refine wpList_load_at rfl 26 _ rfl ⟨w.heap.size + 1, 0, none⟩ rfl [.int .i64 6, .bool false, .int .i64 0, .string ⟨#[]⟩, .slice none 0 0, .slice none 0 0] _ (blk_cells HM5.out.blk) Tryz.underlying26 rfl jv_size ?_ | refine wpList_store_blk rfl 26 _ _ rfl w.heap.size _ #[.int .i64 6, .bool false, .int .i64 0, .string ⟨#[]⟩, .slice none 0 0, .slice none 0 0] 26 rfl rfl HM5.out.res rfl jv_size (jv_ones _ _ _ _ _ _ _ _ _ _) ?_)
   refine bodyPost_ret (results_cell_row Tryz.results83 _ _ w.heap.size _ _ _ _ rfl HM5.out.res.setRow Tryz.underlying26 rfl (by kernel_rfl)) rfl ?_
   exact rvalR_err rfl _ _ _ _ _ _ _ _ _ _ rfl (HM5.out.set_ _).2 (HM5.out.set_ _).1
end Go.Proofs.YtieppmppdmcleaaGreatDoor
/- A text parted at one sign: countersignref6.Parts. No condition of its own. -/
namespace Go.Proofs.YtieppmppdmcleaaGreatDoor
open Go.RowKit
def partsTo (c : UInt8) (l : List UInt8) : List (List UInt8) × List UInt8 :=
 l.foldl (fun r x => if x = c then (r.1 ++ [r.2], []) else (r.1, r.2 ++ [x])) ([], [])
theorem parts_from (c : UInt8) : ∀ (l : List UInt8) (a : List (List UInt8)) (b : List UInt8),
  (l.foldl (fun (r : List (List UInt8) × List UInt8) x => if x = c then (r.1 ++ [r.2], []) else (r.1, r.2 ++ [x])) (a, b)).1 ++ [(l.foldl (fun (r : List (List UInt8) × List UInt8) x => if x = c then (r.1 ++ [r.2], []) else (r.1, r.2 ++ [x])) (a, b)).2] = a ++ (match splitC c l with | [] => [b] | p :: ps => (b ++ p) :: ps)
 | [], a, b => by simp [splitC]
 | x :: l, a, b => by
  rw [List.foldl_cons]
  by_cases h : x = c
  ·
   rw [if_pos h, parts_from c l, splitC, if_pos h]
   simp only
   cases hs : splitC c l with
   | nil => exact absurd hs (splitC_ne c l)
   | cons p ps => simp
  ·
   rw [if_neg h, parts_from c l, splitC, if_neg h]
   simp only
   cases hs : splitC c l with
   | nil => exact absurd hs (splitC_ne c l)
   | cons p ps => simp
theorem parts_all (c : UInt8) (l : List UInt8) : (partsTo c l).1 ++ [(partsTo c l).2] = splitC c l := by
 rw [partsTo, parts_from c l [] []]
 cases hs : splitC c l with
 | nil => exact absurd hs (splitC_ne c l)
 | cons p ps => simp
theorem parts_succ (c : UInt8) (l : List UInt8) (i : Nat) (x : UInt8) (h : l[i]? = some x) : partsTo c (l.take (i + 1)) = if x = c then ((partsTo c (l.take i)).1 ++ [(partsTo c (l.take i)).2], []) else ((partsTo c (l.take i)).1, (partsTo c (l.take i)).2 ++ [x]) := by
 rw [partsTo, List.take_add_one, h, List.foldl_append]
 rfl
theorem parts_at (c : UInt8) (l : List UInt8) : ∀ i, i ≤ l.length → (partsTo c (l.take i)).2.length ≤ i ∧ (partsTo c (l.take i)).2 = (l.take i).drop (i - (partsTo c (l.take i)).2.length) ∧ (partsTo c (l.take i)).1.length ≤ i
 | 0, _ => by simp [partsTo]
 | i + 1, h => by
  obtain ⟨h1, h2, h3⟩ := parts_at c l i (by omega)
  obtain ⟨x, hx⟩ : ∃ x, l[i]? = some x := ⟨l[i], List.getElem?_eq_getElem (by omega)⟩
  have ht : (l.take (i + 1)) = l.take i ++ [x] := by rw [List.take_add_one, hx]; rfl
  have hl : (l.take i).length = i := by rw [List.length_take]; omega
  rw [parts_succ c l i x hx]
  by_cases hc : x = c
  ·
   rw [if_pos hc]
   refine ⟨by simp, ?_, by simp; omega⟩
   simp only [List.length_nil, Nat.sub_zero]
   rw [List.drop_eq_nil_of_le (by rw [List.length_take]; omega)]
  ·
   rw [if_neg hc]
   refine ⟨by simp; omega, ?_, by show (partsTo c (l.take i)).1.length ≤ i + 1; omega⟩
   simp only [List.length_append, List.length_singleton]
   rw [ht, List.drop_append_of_le_length (by omega)]
   congr 1
   rw [show i + 1 - ((partsTo c (l.take i)).2.length + 1) = i - (partsTo c (l.take i)).2.length by omega]
   exact h2
def PartsR (ps : List (List UInt8)) (w : World) (e : Ending) (w' : World) : Prop :=
 ∃ v, e = .returned v ∧ w'.ownsRow w.heap.size 9 1 v ps.length (strVs ps) ∧ Below w.heap.size w w'
theorem one_str (s : ByteArray) (l : List UInt8) (hs : s.data.toList = l) (i : Nat) (x : UInt8) (h : l[i]? = some x) (c : UInt8) : ((s.extract i (i + 1)).toList == [c]) = decide (x = c) := by
 rw [ByteArray.toList_eq, Lib.extract_data, hs]
 have hi := (List.getElem?_eq_some_iff.1 h).1
 have : (l.drop i).take (i + 1 - i) = [x] := by
  rw [List.getElem?_eq_getElem hi] at h
  injection h with h
  rw [show i + 1 - i = 1 by omega, List.drop_eq_getElem_cons hi, List.take_succ_cons, List.take_zero, h]
 rw [this, Bool.eq_iff_iff]
 simp
theorem parts_walk (s : ByteArray) (l : List UInt8) (hs : s.data.toList = l) (c : UInt8) (w : World) (hm : s.size ≤ 1000000) :
  Calls Tryz.prog 16 #[.string s, .string ⟨#[c]⟩] w (PartsR (splitC c l) w) := by
 obtain ⟨i0, hi, hz0, hz1, hz2⟩ := infoS4 info_string
 have hsz : l.length = s.size := by rw [← hs, Lib.size_eq]
 go_enter Tryz.func16, Tryz.ntmps16
 go_wp2_with fail
 go_loopw [5, 6, 7] (fun ov fv iv wr => ∃ i : Nat, i ≤ s.size ∧ iv = .int .i64 i ∧ fv = .int .i64 ((i - (partsTo c (l.take i)).2.length : Nat) : Int) ∧ Hid (wr.ownsRow w.heap.size 9 1 ov (partsTo c (l.take i)).1.length (strVs (partsTo c (l.take i)).1)) ∧ Hid (Below w.heap.size w wr)) (fun _ _ iv _ => s.size - (intOf iv).toNat)
 case atStart => exact ⟨0, by omega, rfl, by simp [partsTo], World.ownsRow_nil _ _ _ _, Below.refl _ _⟩
 case round =>
  obtain ⟨i, his, rfl, rfl, hown, hb⟩ := hrel
  obtain ⟨hp1, hp2, hp3⟩ := parts_at c l i (by omega)
  obtain ⟨a, b, hab⟩ : ∃ a b, partsTo c (l.take i) = (a, b) := ⟨_, _, rfl⟩
  rw [hab] at hp1 hp2 hp3 hown ⊢
  have HAB := Lib.hid hab
  have HP2 := Lib.hid hp2
  clear hab hp2
  simp only at hp1 hp3 hown ⊢
  obtain ⟨f, hf⟩ : ∃ f, i - b.length = f := ⟨_, rfl⟩
  have hfi : f ≤ i := by omega
  rw [hf] at HP2 ⊢
  have HF := Lib.hid hf
  clear hf
  have hbe : (s.extract f i).data.toList = b := by
   rw [Lib.extract_data, hs, ← List.drop_take]
   exact HP2.out.symm
  have hst := str_eta _ _ hbe
  have hsz2 := hb.out.size
  have hal : a.length ≤ 1000000 := by omega
  have hfd : decide ((f : Int) ≤ (i : Int)) = true := by simp; omega
  have hfd2 : decide (f ≤ i) = true := by simpa using hfi
  clear hbe
  by_cases hlt : i < s.size
  ·
   obtain ⟨x, hx⟩ : ∃ x, l[i]? = some x := ⟨l[i]'(by omega), List.getElem?_eq_getElem (by omega)⟩
   have hone := one_str s l hs i x hx c
   have HX := Lib.hid hx
   clear hx
   by_cases hc : x = c
   ·
    have hcd : ((s.extract i (i + 1)).toList == [c]) = true := by rw [hone]; simpa using hc
    clear hone
    subst hc
    go_wp2_with (at_builtin; refine wpList_append_new wr rfl (.tmp 31) (.tmp 36) 23 rfl w.heap.size 9 i0 (.string ⟨#[]⟩) 1 16 Tryz.underlying23 hi hz0 hz1 hz2 rfl (by decide) u5 a.length (strVs a) rfl hown.out [.string ⟨b.toArray⟩] rfl rfl (by simp [Value.oneCell']) (by unfold maxLen; omega) (by omega) hsz2 ?_; intro v' w2 hown2 hg2)
    have hns : partsTo x (l.take (i + 1)) = (a ++ [b], []) := by rw [parts_succ x l i x HX.out, if_pos rfl, HAB.out]
    have HB2 := Lib.hid (hb.out.grown hg2 hsz2 (fun q e => (hown.out.lt q e).1))
    refine ⟨⟨i + 1, by omega, by go_num, by rw [hns]; rfl, ?_, HB2⟩, by simp [intOf]; omega⟩
    show World.ownsRow _ _ _ _ _ _ _
    rw [hns]
    simpa [strVs, strV] using hown2
   ·
    have hcd : ((s.extract i (i + 1)).toList == [c]) = false := by rw [hone]; simpa using hc
    have hns : partsTo c (l.take (i + 1)) = (a, b ++ [x]) := by rw [parts_succ c l i x HX.out, if_neg hc, HAB.out]
    have HNS := Lib.hid hns
    clear hone hst hns
    go_wp2_with fail
    refine ⟨⟨i + 1, by omega, by go_num, ?_, ?_, hb⟩, by simp [intOf]; omega⟩
    ·
     rw [HNS.out]
     congr 2
     have := HF.out
     simp
     omega
    ·
     show World.ownsRow _ _ _ _ _ _ _
     rw [HNS.out]
     exact hown.out
  ·
   obtain rfl : i = s.size := by omega
   have hall := parts_all c l
   have hl2 : l.take s.size = l := by rw [← hsz, List.take_length]
   rw [hl2] at HAB
   rw [HAB.out] at hall
   have HALL := Lib.hid hall
   clear hall hl2
   go_wp2_with (at_builtin; refine wpList_append_new wr rfl (.tmp 42) (.tmp 46) 23 rfl w.heap.size 9 i0 (.string ⟨#[]⟩) 1 16 Tryz.underlying23 hi hz0 hz1 hz2 rfl (by decide) u5 a.length (strVs a) rfl hown.out [.string ⟨b.toArray⟩] rfl rfl (by simp [Value.oneCell']) (by unfold maxLen; omega) (by omega) hsz2 ?_; intro v' w2 hown2 hg2)
   go_ret
   refine ⟨v', rfl, ?_, hb.out.grown hg2 hsz2 (fun q e => (hown.out.lt q e).1)⟩
   rw [← HALL.out]
   simpa [strVs, strV] using hown2
end Go.Proofs.YtieppmppdmcleaaGreatDoor
