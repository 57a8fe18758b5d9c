/- Challenges, both sides, and their plain law. No condition of its own. -/
import Derived.Test.YtnhjgocdepbajaaGreatWl
set_option linter.unusedVariables false
set_option linter.unusedSimpArgs false
set_option maxRecDepth 20000
set_option maxHeartbeats 2000000
namespace Go.Proofs.YtnhjgocdepbajaaGreat
namespace K9
section
open Go.RowKit
theorem may_mk {kind n : Int} {s : ByteArray} {kids : List Tm} {deep : Int} {c c' : Nat} (hc : c + 1 ≤ 64) (hd : deep ≤ 16) (hr : rightB kind n s kids.length = true) (hk : mayK kids (deep + 1) (c + 1) = (true, c')) :
  mayT (.mk kind n s kids) deep c = (true, c') := by
 rw [mayT, if_neg (fun h => by rcases h with h | h | h; omega; omega; rw [hr] at h; cases h), hk]
theorem drop_at {l : List UInt8} {p : Nat} {x : UInt8} (h : l[p]? = some x) : l.drop p = x :: l.drop (p + 1) := by
 obtain ⟨h1, h2⟩ := List.getElem?_eq_some_iff.1 h
 rw [List.drop_eq_getElem_cons h1, h2]
theorem right_nonce {v : Nat} (h : v ≤ 1073741824) : rightB 2 v ⟨#[]⟩ 0 = true := by
 have e : (⟨#[]⟩ : ByteArray).toList = [] := str_nil rfl
 simp [rightB, kidsN, e]
 omega
theorem right_more {k : Int} {m : Nat} (h : (m : Int) = kidsN k) : rightB k 0 ⟨#[]⟩ m = true := by
 have e : (⟨#[]⟩ : ByteArray).toList = [] := str_nil rfl
 simp [rightB, e, h]
end
section
open Go.RowKit
theorem may_pair {t : Tm} (h : mayB t = true) : ∃ c, mayT t 1 0 = (true, c) := by
 rw [mayB] at h
 cases hT : mayT t 1 0 with
 | mk b c => rw [hT] at h; have hb : b = true := h; subst hb; exact ⟨c, rfl⟩
theorem put_of {t : Tm} (h : mayB t = true) : putT t = encT t := by rw [putT, if_pos h]
theorem enc_pos (t : Tm) : 0 < (encT t).length := by cases t; rw [encT]; simp
theorem take_put {t : Tm} (h : mayB t = true) (rest : List UInt8) : takeT (encT t ++ rest) = .ok (t, (encT t).length) := by
 obtain ⟨c, hc⟩ := may_pair h
 have := dec_enc t 1 0 c hc 16 rfl [] rest
 rw [List.nil_append] at this
 rw [takeT, show ([] : List UInt8).length = 0 from rfl, Nat.zero_add] at *
 rw [this]
theorem one_put {t : Tm} (h : mayB t = true) : oneT (encT t) = .ok t := by
 have := take_put h []
 rw [List.append_nil] at this
 rw [oneT, this]
 simp
end
section
open Go.RowKit
theorem t_walk (kd : Int) (A : Option Addr) (m c : Nat) (w : World) : Calls Tryz.prog 90 #[.int .i64 kd, .slice A m c] w fun e w' => e = .returned (.agg #[.int .i64 kd, .int .i64 0, .string ⟨#[]⟩, .slice A m c]) ∧ Below w.heap.size w w' := by
 have hb := (Below.refl w.heap.size w).alloc (Nat.le_refl _) (.cells #[.int .i64 0, .int .i64 0, .string ⟨#[]⟩, .slice none 0 0] 139)
 have hbr := Blk.new w 139 #[.int .i64 0, .int .i64 0, .string ⟨#[]⟩, .slice none 0 0]
 go_enter Tryz.func90, Tryz.ntmps90
 go_wp2_with (refine wpList_store_blk rfl 139 _ _ rfl w.heap.size _ #[.int .i64 kd, .int .i64 0, .string ⟨#[]⟩, .slice A m c] _ rfl rfl hbr rfl term_size (ones4 _ _ _ _ _ _) ?_)
 refine bodyPost_ret (results_cell_row Tryz.results90 _ _ w.heap.size _ _ _ _ rfl hbr.setRow Tryz.underlying139 rfl (by kernel_rfl)) rfl ⟨rfl, below_setRow hb (Nat.le_refl _) _⟩
theorem blk_reads {w : World} {g : Nat} {t : TypeId} {us : List Value} {n m : Nat} (h : Blk w g t us.toArray) (hl : us.length = m * n) : Reads w w.heap.size n (some ⟨g, 0, none⟩) m us := by
 refine ⟨hl, fun _ => ⟨_, rfl, h.lt, fun j u hu => ?_⟩⟩
 rw [add_zero_at, h.cell j]
 simpa using hu
theorem one_kid {w : World} {g lo lo' : Nat} {kind : Int} {t : Tm} {c0 c1 c2 c3 : Value} (h : Blk w g 139 #[c0, c1, c2, c3]) (ht : TmV w lo t [c0, c1, c2, c3]) (h1 : lo' ≤ g) (h2 : lo' ≤ lo) :
  TmV w lo' (.mk kind 0 ⟨#[]⟩ [t]) [.int .i64 kind, .int .i64 0, .string ⟨#[]⟩, .slice (some ⟨g, 0, none⟩) 1 1] :=
 kids_node (ks := [t]) (vs := [[c0, c1, c2, c3]]) (lo := lo') (Nat.le_refl _) (by decide) (blk_reads (us := [c0, c1, c2, c3]) h rfl) (fun _ ad e => by injection e with e; rw [← e]; exact h1)
  (by rw [TmsV]; exact ⟨_, [], rfl, ht.low h2, by rw [TmsV]⟩) (Nat.le_refl _)
end
section
open Go.RowKit
def numO (l : List UInt8) : Option Int := match readO l with | none => none | some t => if t.kind = 2 then some t.num else none
def hashT (n : Int) : Tm := .mk 3 0 ⟨#[]⟩ [.mk 2 n ⟨#[]⟩ []]
def keyL (n : Int) : List UInt8 := markT (.mk 2 n ⟨#[]⟩ [])
def chalO (l : List UInt8) : Option (List UInt8) := (numO l).map fun n => markT (hashT n)
def mayC (l : List UInt8) : Bool := match readO l with | none => false | some t => t.kind == 3
def holdsB (c v : List UInt8) : Bool := match chalO v with | none => false | some x => x == c
theorem tolist_mk (l : List UInt8) : (⟨l.toArray⟩ : ByteArray).toList = l := by rw [ByteArray.toList_eq]
theorem hash_tm (n : Int) {w : World} {g : Nat} (h : Blk w g 139 #[.int .i64 2, .int .i64 n, .string ⟨#[]⟩, .slice none 0 0]) : TmV w 0 (hashT n) [.int .i64 3, .int .i64 0, .string ⟨#[]⟩, .slice (some ⟨g, 0, none⟩) 1 1] :=
 one_kid h (tm_leaf w 0 2 n ⟨#[]⟩) (Nat.zero_le _) (Nat.zero_le _)
theorem rmnum_walk (s : ByteArray) (l : List UInt8) (hs : s.data.toList = l) (w : World) (hm : s.size ≤ 1000000) :
  Calls Tryz.prog 88 #[.string s] w fun e w' => e = .returned (.tuple #[.int .i64 ((numO l).getD 0), .bool (numO l).isSome]) ∧ Below w.heap.size w w' := by
 have cr := rread_walk s l hs w hm
 have hv : Hid (numO l = match readO l with | none => none | some t => if t.kind = 2 then some t.num else none) := rfl
 cases hO : readO l with
 | none =>
  rw [hO] at cr
  have hv2 : Hid (numO l = none) := by show _ = _; rw [hv.out, hO]
  have CR := Lib.hid cr
  clear cr hO hv
  go_enter Tryz.func88, Tryz.ntmps88
  go_wp2_with fail
  refine CR.out.mono ?_
  rintro _ w1 ⟨kd, nm, s2, A2, m2, c2, rfl, htv, hb⟩
  have HB := Lib.hid (hb.alloc hb.size (.cells #[.int .i64 kd, .int .i64 nm, .string s2, .slice A2 m2 c2] 139))
  clear CR htv hb
  go_wp2_with (refine wpList_store_fresh w1 rfl 139 _ _ rfl _ #[.int .i64 kd, .int .i64 nm, .string s2, .slice A2 m2 c2] _ rfl rfl rfl term_size (ones4 _ _ _ _ _ _) ?_)
  go_ret2
  rw [hv2.out]
  exact ⟨rfl, HB.out⟩
 | some t =>
  rw [hO] at cr
  have hv2 : Hid (numO l = if t.kind = 2 then some t.num else none) := by show _ = _; rw [hv.out, hO]
  have CR := Lib.hid cr
  clear cr hO hv
  go_enter Tryz.func88, Tryz.ntmps88
  go_wp2_with fail
  refine CR.out.mono ?_
  rintro _ w1 ⟨kd, nm, s2, A2, m2, c2, rfl, htv, hb⟩
  have htk : kd = t.kind ∧ nm = t.num := TmV.kind_num htv
  have hv3 : Hid (numO l = if kd = 2 then some nm else none) := by show _ = _; rw [hv2.out, htk.1, htk.2]
  have hbx := Blk.new w1 139 #[.int .i64 kd, .int .i64 nm, .string s2, .slice A2 m2 c2]
  have k0 : (w1.alloc (.cells #[.int .i64 kd, .int .i64 nm, .string s2, .slice A2 m2 c2] 139)).cell? ⟨w1.heap.size, 0, none⟩ = some (.int .i64 kd) := hbx.cell 0
  have k1 : (w1.alloc (.cells #[.int .i64 kd, .int .i64 nm, .string s2, .slice A2 m2 c2] 139)).cell? ⟨w1.heap.size, 1, none⟩ = some (.int .i64 nm) := hbx.cell 1
  have HB := Lib.hid (hb.alloc hb.size (.cells #[.int .i64 kd, .int .i64 nm, .string s2, .slice A2 m2 c2] 139))
  clear CR htv hb htk hbx
  by_cases h2 : kd = 2
  ·
   have e2 : (kd != 2) = false := by rw [h2]; rfl
   have hv4 : Hid (numO l = some nm) := by show _ = _; rw [hv3.out, if_pos h2]
   clear h2
   go_wp2_with (refine wpList_store_fresh w1 rfl 139 _ _ rfl _ #[.int .i64 kd, .int .i64 nm, .string s2, .slice A2 m2 c2] _ rfl rfl rfl term_size (ones4 _ _ _ _ _ _) ?_)
   go_ret2
   rw [hv4.out]
   exact ⟨rfl, HB.out⟩
  ·
   have e2 : (kd != 2) = true := by rw [bne_iff_ne]; exact h2
   have hv4 : Hid (numO l = none) := by show _ = _; rw [hv3.out, if_neg h2]
   clear h2
   go_wp2_with (refine wpList_store_fresh w1 rfl 139 _ _ rfl _ #[.int .i64 kd, .int .i64 nm, .string s2, .slice A2 m2 c2] _ rfl rfl rfl term_size (ones4 _ _ _ _ _ _) ?_)
   go_ret2
   rw [hv4.out]
   exact ⟨rfl, HB.out⟩
theorem rcmay_walk (s : ByteArray) (l : List UInt8) (hs : s.data.toList = l) (w : World) (hm : s.size ≤ 1000000) :
  Calls Tryz.prog 115 #[.string s] w fun e w' => e = .returned (.bool (mayC l)) ∧ Below w.heap.size w w' := by
 have cr := rread_walk s l hs w hm
 have hv : Hid (mayC l = match readO l with | none => false | some t => t.kind == 3) := rfl
 cases hO : readO l with
 | none =>
  rw [hO] at cr
  have hv2 : Hid (mayC l = false) := by show _ = _; rw [hv.out, hO]
  have CR := Lib.hid cr
  clear cr hO hv
  go_enter Tryz.func115, Tryz.ntmps115
  go_wp2_with fail
  refine CR.out.mono ?_
  rintro _ w1 ⟨kd, nm, s2, A2, m2, c2, rfl, htv, hb⟩
  have HB := Lib.hid (hb.alloc hb.size (.cells #[.int .i64 kd, .int .i64 nm, .string s2, .slice A2 m2 c2] 139))
  clear CR htv hb
  go_wp2_with (refine wpList_store_fresh w1 rfl 139 _ _ rfl _ #[.int .i64 kd, .int .i64 nm, .string s2, .slice A2 m2 c2] _ rfl rfl rfl term_size (ones4 _ _ _ _ _ _) ?_)
  go_ret
  rw [hv2.out]
  exact ⟨rfl, HB.out⟩
 | some t =>
  rw [hO] at cr
  have hv2 : Hid (mayC l = (t.kind == 3)) := by show _ = _; rw [hv.out, hO]
  have CR := Lib.hid cr
  clear cr hO hv
  go_enter Tryz.func115, Tryz.ntmps115
  go_wp2_with fail
  refine CR.out.mono ?_
  rintro _ w1 ⟨kd, nm, s2, A2, m2, c2, rfl, htv, hb⟩
  have htk : kd = t.kind ∧ nm = t.num := TmV.kind_num htv
  have hv3 : Hid (mayC l = (kd == 3)) := by show _ = _; rw [hv2.out, htk.1]
  have hbx := Blk.new w1 139 #[.int .i64 kd, .int .i64 nm, .string s2, .slice A2 m2 c2]
  have k0 : (w1.alloc (.cells #[.int .i64 kd, .int .i64 nm, .string s2, .slice A2 m2 c2] 139)).cell? ⟨w1.heap.size, 0, none⟩ = some (.int .i64 kd) := hbx.cell 0
  have HB := Lib.hid (hb.alloc hb.size (.cells #[.int .i64 kd, .int .i64 nm, .string s2, .slice A2 m2 c2] 139))
  clear CR htv hb htk hbx
  go_wp2_with (refine wpList_store_fresh w1 rfl 139 _ _ rfl _ #[.int .i64 kd, .int .i64 nm, .string s2, .slice A2 m2 c2] _ rfl rfl rfl term_size (ones4 _ _ _ _ _ _) ?_)
  go_ret
  rw [hv3.out]
  exact ⟨rfl, HB.out⟩
theorem key_walk (n : Int) (w : World) : Calls Tryz.prog 60 #[.int .i64 n] w fun e w' => e = .returned (.string ⟨(keyL n).toArray⟩) ∧ Below w.heap.size w w' := by
 go_enter Tryz.func60, Tryz.ntmps60
 go_wp2_with fail
 refine (n_walk n w).mono ?_
 rintro _ w1 ⟨rfl, hb1⟩
 go_wp2_with fail
 refine (rtext_walk (.mk 2 n ⟨#[]⟩ []) 2 n ⟨#[]⟩ none 0 0 w1 (tm_leaf _ _ _ _ _)).mono ?_
 rintro _ w2 ⟨rfl, hb2⟩
 have HB := Lib.hid (below_next hb1 hb2)
 clear hb1 hb2
 go_wp2_with fail
 go_ret
 exact ⟨rfl, HB.out⟩
theorem rchal_walk (s : ByteArray) (l : List UInt8) (hs : s.data.toList = l) (w : World) (hm : s.size ≤ 1000000) :
  Calls Tryz.prog 58 #[.string s] w fun e w' => e = .returned (.tuple #[.string ⟨((chalO l).getD []).toArray⟩, .bool (chalO l).isSome]) ∧ Below w.heap.size w w' := by
 have cn := rmnum_walk s l hs w hm
 have hv : Hid (chalO l = (numO l).map fun n => markT (hashT n)) := rfl
 cases hO : numO l with
 | none =>
  rw [hO] at cn
  have hv2 : Hid (chalO l = none) := by show _ = _; rw [hv.out, hO]; rfl
  have CN := Lib.hid cn
  clear cn hO hv
  go_enter Tryz.func58, Tryz.ntmps58
  go_wp2_with fail
  refine CN.out.mono ?_
  rintro _ w1 ⟨rfl, hb⟩
  go_wp2_with fail
  go_ret2
  rw [hv2.out]
  exact ⟨rfl, hb⟩
 | some n =>
  rw [hO] at cn
  have hv2 : Hid (chalO l = some (markT (hashT n))) := by show _ = _; rw [hv.out, hO]; rfl
  have CN := Lib.hid cn
  clear cn hO hv
  go_enter Tryz.func58, Tryz.ntmps58
  go_wp2_with fail
  refine CN.out.mono ?_
  rintro _ w1 ⟨rfl, hb⟩
  have hb := Lib.hid hb
  clear CN
  go_wp2_with fail
  refine (n_walk n w1).mono ?_
  rintro _ w2 ⟨rfl, hb2⟩
  have HB := Lib.hid (below_next hb.out hb2)
  have hbx := Blk.new w2 139 #[.int .i64 2, .int .i64 n, .string ⟨#[]⟩, .slice none 0 0]
  have HB2 := Lib.hid (HB.out.alloc HB.out.size (.cells #[.int .i64 2, .int .i64 n, .string ⟨#[]⟩, .slice none 0 0] 139))
  have HX := Lib.hid hbx
  clear hb hb2 hbx
  go_wp2_with fail
  refine (t_walk 3 (some ⟨w2.heap.size, 0, none⟩) 1 1 _).mono ?_
  rintro _ w3 ⟨rfl, hb3⟩
  have ct := Lib.hid (rtext_walk (hashT n) 3 0 ⟨#[]⟩ (some ⟨w2.heap.size, 0, none⟩) 1 1 w3 (hash_tm n (HX.out.below hb3 HX.out.lt)))
  have HB3 := Lib.hid (below_next HB2.out hb3)
  clear hb3 HX
  go_wp2_with fail
  refine ct.out.mono ?_
  rintro _ w4 ⟨rfl, hb4⟩
  have HB4 := Lib.hid (below_next HB3.out hb4)
  clear hb4 ct
  go_wp2_with fail
  go_ret2
  rw [hv2.out]
  exact ⟨rfl, HB4.out⟩
theorem rholds_walk (c s : ByteArray) (lc l : List UInt8) (hc : c.data.toList = lc) (hs : s.data.toList = l) (w : World) (hm : s.size ≤ 1000000) :
  Calls Tryz.prog 80 #[.string c, .string s] w fun e w' => e = .returned (.bool (holdsB lc l)) ∧ Below w.heap.size w w' := by
 have ct := rchal_walk s l hs w hm
 have hv : Hid (holdsB lc l = match chalO l with | none => false | some x => x == lc) := rfl
 have hcl : c.toList = lc := by rw [ByteArray.toList_eq]; exact hc
 cases hO : chalO l with
 | none =>
  rw [hO] at ct
  have hv2 : Hid (holdsB lc l = false) := by show _ = _; rw [hv.out, hO]
  have CT := Lib.hid ct
  clear ct hO hv
  go_enter Tryz.func80, Tryz.ntmps80
  go_wp2_with fail
  refine CT.out.mono ?_
  rintro _ w1 ⟨rfl, hb⟩
  go_wp2_with fail
  go_ret
  rw [hv2.out]
  exact ⟨rfl, hb⟩
 | some x =>
  rw [hO] at ct
  have hv2 : Hid (holdsB lc l = (x == lc)) := by show _ = _; rw [hv.out, hO]
  have htx : ∀ y : List UInt8, (⟨y.toArray⟩ : ByteArray).toList = y := tolist_mk
  have CT := Lib.hid ct
  clear ct hO hv
  go_enter Tryz.func80, Tryz.ntmps80
  go_wp2_with fail
  refine CT.out.mono ?_
  rintro _ w1 ⟨rfl, hb⟩
  go_wp2_with fail
  go_ret
  rw [hv2.out]
  exact ⟨by first | rfl | simp [tolist_mk], hb⟩
end
section
open Go.RowKit
theorem key_may (n : Nat) (h : n ≤ 1073741824) : mayB (.mk 2 (n : Int) ⟨#[]⟩ []) = true := by
 rw [mayB, may_mk (by omega) (by omega) (right_nonce (by omega)) (by rw [mayK])]
theorem hash_may (n : Nat) (h : n ≤ 1073741824) : mayB (hashT n) = true := by
 rw [mayB, hashT, may_mk (by omega) (by omega) (right_more rfl) (by rw [mayK, may_mk (by omega) (by omega) (right_nonce (by omega)) (by rw [mayK])]; simp only; rw [mayK])]
theorem mark_form {t : Tm} (h : mayB t = true) : markT t = 126 :: (B64.enc (encT t) ++ [126]) := by
 have := enc_pos t
 rw [markT, put_of h, if_neg (by omega)]
 rfl
theorem read_mark {t : Tm} (h : mayB t = true) : readO (markT t) = some t := by
 have hs : sideB (markT t) = true := by
  rw [mark_form h, sideB]
  simp [List.isPrefixOf, List.isSuffixOf]
 have hm : midL (markT t) = B64.enc (encT t) := by
  rw [mark_form h, midL]
  simp
 rw [readO, if_pos hs, hm, innerO, B64.b64_dec_enc]
 simp only
 rw [one_put h]
theorem mark_inj {t u : Tm} (ht : mayB t = true) (hu : mayB u = true) (h : markT t = markT u) : t = u := by
 have h1 := read_mark ht
 rw [h, read_mark hu] at h1
 injection h1 with h1
 exact h1.symm
theorem num_key (n : Nat) (h : n ≤ 1073741824) : numO (keyL n) = some (n : Int) := by
 rw [numO, keyL, read_mark (key_may n h)]
 rfl
theorem chal_key (n : Nat) (h : n ≤ 1073741824) : chalO (keyL n) = some (markT (hashT n)) := by rw [chalO, num_key n h]; rfl
theorem may_hash (n : Nat) (h : n ≤ 1073741824) : mayC (markT (hashT n)) = true := by rw [mayC, read_mark (hash_may n h)]; rfl
theorem hash_eq (n m : Nat) (hn : n ≤ 1073741824) (hm : m ≤ 1073741824) : (markT (hashT n) == markT (hashT m)) = decide (n = m) := by
 rw [Bool.eq_iff_iff, beq_iff_eq, decide_eq_true_eq]
 constructor
 ·
  intro h
  have := mark_inj (hash_may n hn) (hash_may m hm) h
  rw [hashT, hashT] at this
  injection this with _ _ _ h4
  injection h4 with h4
  injection h4 with _ h5
  omega
 ·
  intro h; rw [h]
theorem holds_key (n m : Nat) (hn : n ≤ 1073741824) (hm : m ≤ 1073741824) : holdsB (markT (hashT n)) (keyL m) = decide (m = n) := by
 rw [holdsB, chal_key m hm]
 exact hash_eq m n hm hn
end
end K9
end Go.Proofs.YtnhjgocdepbajaaGreat
