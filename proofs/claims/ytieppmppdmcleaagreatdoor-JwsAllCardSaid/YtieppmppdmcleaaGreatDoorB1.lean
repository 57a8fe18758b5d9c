/- Several texts in one. No condition of its own. -/
import Derived.Test.YtieppmppdmcleaaGreatDoorKit
set_option linter.unusedVariables false
set_option linter.unusedSimpArgs false
set_option maxRecDepth 20000
set_option maxHeartbeats 1000000
namespace Go.Proofs.YtieppmppdmcleaaGreatDoor
open Go.RowKit
def TapeAt (w : World) (g : Nat) (zs : List Int) (at_ : Nat) : Prop :=
 at_ ≤ zs.length ∧ zs.length ≤ 9223372036854775807 ∧ (∀ z ∈ zs, -9223372036854775808 ≤ z ∧ z ≤ 9223372036854775807) ∧
 ∃ A c, zs.length ≤ c ∧ Blk w g 55 #[.slice A zs.length c, .int .i64 (at_ : Int)] ∧ Reads w g 1 A zs.length (zs.map (Value.int .i64))
theorem TapeAt.lt {w : World} {g : Nat} {zs : List Int} {k : Nat} (h : TapeAt w g zs k) : g < w.heap.size := by
 obtain ⟨_, _, _, A, c, _, hb, _⟩ := h
 exact hb.lt
theorem TapeAt.grown {w w' : World} {g : Nat} {zs : List Int} {k : Nat} {row : Option Nat} (h : TapeAt w g zs k) (hg : w.grownBy w' row) (hr : ∀ r, row = some r → g < r) : TapeAt w' g zs k := by
 have hl := h.lt
 obtain ⟨h1, h2, h3, A, c, hc, hb, hrd⟩ := h
 refine ⟨h1, h2, h3, A, c, hc, hb.grown hg (fun e => ?_), hrd.grown hg (by omega) (fun r e => ?_)⟩
 ·
  have := hr g e.symm; omega
 ·
  have := hr r e; omega
theorem TapeAt.below {w w' : World} {g : Nat} {zs : List Int} {k : Nat} (h : TapeAt w g zs k) (hb : Below (g + 1) w w') : TapeAt w' g zs k := by
 obtain ⟨h1, h2, h3, A, c, hc, hbk, hrd⟩ := h
 exact ⟨h1, h2, h3, A, c, hc, hbk.below hb (by omega), hrd.below (hb.mono (by omega))⟩
theorem TapeAt.drewN {w : World} {g : Nat} {zs : List Int} {k : Nat} (h : TapeAt w g zs k) (n : Nat) : TapeAt (w.drewN n) g zs k := h
theorem only_trans {a b c : World} {g : Nat} (h : a.grownBy b (some g)) (k : b.grownBy c (some g)) : a.grownBy c (some g) :=
 ⟨k.os.trans h.os, k.tape.trans h.tape, k.output.trans h.output, Nat.le_trans h.size k.size, fun i hi hne => (k.block i (Nat.lt_of_lt_of_le hi h.size) hne).trans (h.block i hi hne)⟩
theorem only_refl (a : World) (row : Option Nat) : a.grownBy a row := ⟨rfl, rfl, rfl, Nat.le_refl _, fun _ _ _ => rfl⟩
theorem TapeAt.step {w : World} {g : Nat} {zs : List Int} {k : Nat} (h : TapeAt w g zs k) (hlt : k < zs.length) : TapeAt (w.setCell ⟨g, 1, none⟩ (.int .i64 ((k : Int) + 1))) g zs (k + 1) := by
 obtain ⟨h1, h2, h3, A, c, hc, hb, hr⟩ := h
 refine ⟨by omega, h2, h3, A, c, hc, ?_, hr.setCell (Nat.le_refl _) _⟩
 have := hb.set_ 1 (.int .i64 ((k : Int) + 1))
 simpa using this
theorem reads_row (w : World) (e : TypeId) (us : List Value) : Reads (w.alloc (.cells us.toArray e)) (w.heap.size + 1) 1 (some ⟨w.heap.size, 0, none⟩) us.length us := by
 obtain ⟨h1, h2⟩ := reads_new w e us
 refine ⟨by simp, fun _ => ?_⟩
 obtain ⟨ad, e1, e2, e3⟩ := h2 (by omega)
 exact ⟨ad, e1, e2, e3⟩
def nextR (zs : List Int) (k : Nat) (n : Int) : Int := if k < zs.length ∧ 1 ≤ n then zs.getD k 0 % n else 0
def nextA (zs : List Int) (k : Nat) (n : Int) : Nat := if k < zs.length ∧ 1 ≤ n then k + 1 else k
theorem nextR_pos (zs : List Int) (k : Nat) (n : Int) (h : 1 ≤ n) : 0 ≤ nextR zs k n ∧ nextR zs k n < n := by
 unfold nextR
 split
 ·
  exact ⟨Int.emod_nonneg _ (by omega), Int.emod_lt_of_pos _ (by omega)⟩
 ·
  omega
theorem within1_walk (z n : Int) (w : World) (hn : 1 ≤ n) (hn2 : n ≤ 9223372036854775807) (hz : -9223372036854775808 ≤ z ∧ z ≤ 9223372036854775807) :
  Calls Tryz.prog 65 #[.int .i64 z, .int .i64 n] w fun e w' => e = .returned (.int .i64 (z % n)) ∧ w = w' := by
 have h0 := Int.emod_nonneg z (show n ≠ 0 by omega)
 have h1 := Int.emod_lt_of_pos z (show 0 < n by omega)
 obtain ⟨hz1, hz2⟩ := hz
 by_cases h : 0 ≤ z
 ·
  go_enter Tryz.func65, Tryz.ntmps65
  go_wp2_with fail
  go_ret
  exact ⟨rfl, rfl⟩
 ·
  obtain ⟨r, er⟩ : ∃ r, z.tmod n = r := ⟨_, rfl⟩
  have hr : r = z % n ∧ r = 0 ∨ r = z % n - n ∧ r < 0 := by
   rw [← er, Int.tmod_eq_emod]
   by_cases hd : n ∣ z
   ·
    left
    have := Int.emod_eq_zero_of_dvd hd
    simp [hd]; omega
   ·
    right
    simp only [hd, or_false, h, if_false]
    omega
  rcases hr with ⟨e1, e2⟩ | ⟨e1, e2⟩
  ·
   have E := Lib.hid e1
   have hr0 : ¬ r < 0 := by omega
   have hz0 : z % n = 0 := by omega
   have hr0' : r = 0 := e2
   subst hr0'
   have HZ := Lib.hid hz0
   clear e1 hz0 h0 h1 e2
   go_enter Tryz.func65, Tryz.ntmps65
   go_wp2_with fail
   go_ret
   exact ⟨by rw [HZ.out]; rfl, rfl⟩
  ·
   have E : Hid (r + n = z % n) := by show _ = _; omega
   have hr1 : -n ≤ r := by omega
   clear e1 h0 h1
   go_enter Tryz.func65, Tryz.ntmps65
   go_wp2_with fail
   go_ret
   exact ⟨by rw [← E.out]; rfl, rfl⟩
theorem more_walk (zs : List Int) (g k : Nat) (w : World) (ht : TapeAt w g zs k) :
  Calls Tryz.prog 64 #[.pointer (some ⟨g, 0, none⟩)] w fun e w' => e = .returned (.bool (decide (k < zs.length))) ∧ ∃ n, w' = w.drewN n := by
 obtain ⟨h1, h2, h3, A, c, hc, hb, hr⟩ := ht
 have c0 := hb.cell 0
 have c1 := hb.cell 1
 clear hr h3 hb
 simp at c0 c1
 by_cases hlt : k < zs.length
 ·
  have hd : decide (k < zs.length) = true := by simpa using hlt
  go_enter Tryz.func64, Tryz.ntmps64
  go_wp2_with fail
  go_quiet (fail)
  go_wp2_with fail
  go_ret
  exact ⟨by first | rw [hd]; rfl | rfl, _, rfl⟩
 ·
  have hd : decide (k < zs.length) = false := by simpa using hlt
  go_enter Tryz.func64, Tryz.ntmps64
  go_wp2_with fail
  go_quiet (fail)
  go_wp2_with fail
  go_ret
  exact ⟨by first | rw [hd]; rfl | rfl, _, rfl⟩
set_option maxRecDepth 100000 in
theorem next_walk (zs : List Int) (g k : Nat) (n : Int) (w : World) (ht : TapeAt w g zs k) (hn : -9223372036854775808 ≤ n ∧ n ≤ 9223372036854775807) :
  Calls Tryz.prog 42 #[.pointer (some ⟨g, 0, none⟩), .int .i64 n] w fun e w' => e = .returned (.int .i64 (nextR zs k n)) ∧ TapeAt w' g zs (nextA zs k n) ∧ w.grownBy w' (some g) ∧ w'.heap.size = w.heap.size := by
 obtain ⟨hn1, hn2⟩ := hn
 have cm := Lib.hid (more_walk zs g k w ht)
 by_cases hlt : k < zs.length
 ·
  rw [show decide (k < zs.length) = true by simpa using hlt] at cm
  by_cases h1 : 1 ≤ n
  ·
   have hv : Hid (nextR zs k n = zs.getD k 0 % n) := by show _ = _; rw [nextR, if_pos ⟨hlt, h1⟩]
   have hv2 : Hid (nextA zs k n = k + 1) := by show _ = _; rw [nextA, if_pos ⟨hlt, h1⟩]
   have hlt1 : ¬ n < 1 := by omega
   have HT := Lib.hid ht
   obtain ⟨t1, t2, t3, A, c, hc, hb, hr⟩ := ht
   obtain ⟨ad, u, rfl, had, hu, hcu⟩ := hr.at_ hlt
   have hu2 : u = .int .i64 (zs.getD k 0) := by
    rw [List.getElem?_map, List.getElem?_eq_getElem hlt] at hu
    simp at hu
    rw [← hu]; simp [hlt]
   have hz := t3 (zs.getD k 0) (by simp [hlt])
   have hex : ∃ z, Hid (zs.getD k 0 = z) ∧ u = .int .i64 z ∧ -9223372036854775808 ≤ z ∧ z ≤ 9223372036854775807 := ⟨_, rfl, hu2, hz⟩
   obtain ⟨z, hzz, rfl, hz1, hz2⟩ := hex
   have d2 : ∀ u, (w.setCell ⟨g, 1, none⟩ u).cell? (ad.add k) = some (.int .i64 z) := fun u => by
    rw [World.cell?_setCell_other w _ _ u (fun e => by have := block_of_add ad k; rw [← e] at this; simp at this; omega)]; exact hcu
   have c0 := hb.cell 0
   have c1 := hb.cell 1
   have f1 := hb.frozen 1
   simp at c0 c1
   have d0 : ∀ u, (w.setCell ⟨g, 1, none⟩ u).cell? ⟨g, 0, none⟩ = some (.slice (some ad) zs.length c) := fun u => by
    rw [World.cell?_setCell_other w _ _ u (fun e => by simp at e)]; exact c0
   have HR := Lib.hid hr
   have HB := Lib.hid hb
   have hs1 := Lib.hid (show IntKind.i64.wrap (k : Int) = k from IntWalk.i64_in _ (by omega))
   have cw := Lib.hid (within1_walk z n)
   clear hu2 hu hcu hz hr hb
   have T3 := Lib.hid t3
   clear t3
   have D0 := Lib.hid d0
   have D2 := Lib.hid d2
   clear d0 d2
   go_enter Tryz.func42, Tryz.ntmps42
   go_wp2_with fail
   refine (cm.out).mono ?_
   rintro _ w1 ⟨rfl, q, rfl⟩
   go_wp2_with fail
   have d2 : ((w.drewN q).setCell ⟨g, 1, none⟩ (.int .i64 ((k : Int) + 1))).cell? (ad.add k) = some (.int .i64 z) := D2.out _
   have hs := hs1.out
   go_quiet ((go_at_call 65; refine (cw.out _ h1 hn2 ⟨hz1, hz2⟩).mono ?_; rintro e w9 ⟨rfl, rfl⟩; exact ⟨rfl, _, rfl⟩))
   go_wp2_with fail
   go_ret
   refine ⟨by rw [hv.out, hzz.out]; rfl, ?_, only_drewN (only_setCell (only_drewN (only_refl _ _) _) (.inl rfl) _) _, ?_⟩
   ·
    rw [hv2.out]; exact (HT.out.step hlt)
   ·
    simp [World.setCell]
  ·
   have hv : Hid (nextR zs k n = 0) := by show _ = _; rw [nextR, if_neg (fun h => h1 h.2)]
   have hv2 : Hid (nextA zs k n = k) := by show _ = _; rw [nextA, if_neg (fun h => h1 h.2)]
   go_enter Tryz.func42, Tryz.ntmps42
   go_wp2_with fail
   refine (cm.out).mono ?_
   rintro _ w1 ⟨rfl, q, rfl⟩
   go_wp2_with fail
   go_ret
   exact ⟨by rw [hv.out]; rfl, by rw [hv2.out]; exact ht, only_drewN (only_refl _ _) _, rfl⟩
 ·
  rw [show decide (k < zs.length) = false by simpa using hlt] at cm
  have hv : Hid (nextR zs k n = 0) := by show _ = _; rw [nextR, if_neg (fun h => hlt h.1)]
  have hv2 : Hid (nextA zs k n = k) := by show _ = _; rw [nextA, if_neg (fun h => hlt h.1)]
  go_enter Tryz.func42, Tryz.ntmps42
  go_wp2_with fail
  refine (cm.out).mono ?_
  rintro _ w1 ⟨rfl, q, rfl⟩
  go_wp2_with fail
  go_ret
  exact ⟨by rw [hv.out]; rfl, by rw [hv2.out]; exact ht, only_drewN (only_refl _ _) _, rfl⟩
theorem pick_walk (zs : List Int) (g k : Nat) (A : Option Addr) (c B : Nat) (ss : List ByteArray) (h0 : 0 < ss.length) (hl : ss.length ≤ 1000000) (hc : ss.length ≤ c) (w : World) (ht : TapeAt w g zs k)
  (hr : Reads w B 1 A ss.length (ss.map Value.string)) (hB : B ≤ w.heap.size) (hne : ∀ p, A = some p → p.block ≠ g) :
  Calls Tryz.prog 45 #[.pointer (some ⟨g, 0, none⟩), .slice A ss.length c] w fun e w' => e = .returned (.string (ss.getD (nextR zs k ss.length).toNat ByteArray.empty)) ∧ TapeAt w' g zs (nextA zs k ss.length) ∧ w.grownBy w' (some g) ∧ w'.heap.size = w.heap.size := by
 have cn := Lib.hid (next_walk zs g k ss.length w ht (by omega))
 have hp := nextR_pos zs k ss.length (by omega)
 obtain ⟨r, er⟩ : ∃ r : Nat, nextR zs k ss.length = r := ⟨(nextR zs k ss.length).toNat, by omega⟩
 rw [er] at cn hp ⊢
 have hrl : r < ss.length := by omega
 obtain ⟨ad, u, rfl, had, hu, hcu⟩ := hr.at_ hrl
 have hne1 := hne ad rfl
 obtain rfl : u = .string (ss.getD r ByteArray.empty) := by
  rw [List.getElem?_map, List.getElem?_eq_getElem hrl] at hu
  simp at hu
  rw [← hu]; simp [hrl]
 obtain ⟨x, hx⟩ : ∃ x, ss.getD r ByteArray.empty = x := ⟨_, rfl⟩
 rw [Int.toNat_natCast, hx]
 rw [hx] at hcu
 have HC := Lib.hid hcu
 have hz : ((ss.length : Int) == 0) = false := by rw [beq_eq_false_iff_ne]; omega
 have HB := Lib.hid (show ad.block < w.heap.size by omega)
 clear hp er hr hne hu hx hcu
 go_enter Tryz.func45, Tryz.ntmps45
 go_wp2_with fail
 refine cn.out.mono ?_
 rintro _ w1 ⟨rfl, ht1, hg1, hs1⟩
 have hcell : w1.cell? (ad.add r) = some (.string x) := by
  rw [← HC.out]
  exact World.cell?_of_block (hg1.block _ (by rw [block_of_add]; exact HB.out) (fun e => by rw [block_of_add] at e; injection e with e; exact hne1 e))
 have HS := Lib.hid hs1
 clear hs1
 go_wp2_with fail
 go_ret
 exact ⟨rfl, ht1, hg1, HS.out⟩
end Go.Proofs.YtieppmppdmcleaaGreatDoor
namespace Go.Proofs.YtieppmppdmcleaaGreatDoor
open Go.RowKit
def IntsIn (w : World) (A : Option Addr) (c : Nat) (zs : List Int) : Prop :=
 zs.length ≤ c ∧ zs.length ≤ 9223372036854775807 ∧ (∀ z ∈ zs, -9223372036854775808 ≤ z ∧ z ≤ 9223372036854775807) ∧ Reads w w.heap.size 1 A zs.length (zs.map (Value.int .i64))
theorem IntsIn.below {w w' : World} {A : Option Addr} {c : Nat} {zs : List Int} (h : IntsIn w A c zs) (hb : Below w.heap.size w w') : IntsIn w' A c zs :=
 ⟨h.1, h.2.1, h.2.2.1, (h.2.2.2.below hb).more hb.size⟩
theorem IsRow.intsIn {w : World} {a : Option Addr} {len cap : Nat} {zs : List Int} (h : IsRow .i64 w a len cap zs) : ∃ l : List Int, len = l.length ∧ IntsIn w a cap l := by
 obtain ⟨h1, h2, h3, h4⟩ := h.ints
 have hcap : cap ≤ 9223372036854775807 := by
  rcases h with ⟨_, _, rfl, _⟩ | ⟨x, _, _, hm, _⟩
  ·
   omega
  ·
   simpa [maxLen] using hm
 refine ⟨zs.take len, h3.symm, by omega, by omega, fun z hz => ?_, ?_⟩
 ·
  have := h4 z hz
  simpa [Lit.wf, IntKind.min, IntKind.max, IntKind.signed, IntKind.bits] using this
 ·
  rw [h3]; exact h1
theorem i64_wf {a : Int} (h : (Lit.int .i64 a).wf = true) : -9223372036854775808 ≤ a ∧ a ≤ 9223372036854775807 := by
 simpa [Lit.wf, IntKind.min, IntKind.max, IntKind.signed, IntKind.bits] using h
theorem u8_wf {a : Int} (h : (Lit.int .u8 a).wf = true) : 0 ≤ a ∧ a ≤ 255 := by
 simpa [Lit.wf, IntKind.min, IntKind.max, IntKind.signed, IntKind.bits] using h
end Go.Proofs.YtieppmppdmcleaaGreatDoor
/- Loads and stores of whole structs in blocks of their own. No condition of its own. -/
namespace Go.Proofs.YtieppmppdmcleaaGreatDoor
open Go.RowKit
def putAll (cur : Array Value) : Nat → List Value → Array Value
 | _, [] => cur
 | o, v :: r => putAll (cur.setIfInBounds o v) (o + 1) r
theorem putAll_at : ∀ (vs : List Value) (o : Nat) (cur : Array Value), o + vs.length ≤ cur.size → ∀ j, (putAll cur o vs)[j]? = if o ≤ j ∧ j < o + vs.length then vs[j - o]? else cur[j]?
 | [], o, cur, _, j => by rw [putAll, if_neg (fun h => by have := h.1; have := h.2; simp at this; omega)]
 | v :: r, o, cur, h, j => by
  rw [putAll, putAll_at r (o + 1) _ (by simp at h ⊢; omega)]
  by_cases h1 : j = o
  ·
   subst h1
   rw [if_neg (by omega), if_pos (by simp)]
   simp at h
   simp [Array.getElem?_setIfInBounds, show j < cur.size by omega]
  ·
   by_cases h2 : o + 1 ≤ j ∧ j < o + 1 + r.length
   ·
    rw [if_pos h2, if_pos (by simp; omega), show j - o = j - (o + 1) + 1 by omega]
    simp
   ·
    rw [if_neg h2, if_neg (by simp; omega), Array.getElem?_setIfInBounds, if_neg (fun e => h1 e.symm)]
theorem putAll_whole (vs : List Value) (cur : Array Value) (h : cur.size = vs.length) : putAll cur 0 vs = vs.toArray := by
 apply Array.ext_getElem?
 intro j
 rw [putAll_at vs 0 cur (by omega)]
 by_cases hj : j < vs.length
 ·
  rw [if_pos (by omega)]; simp
 ·
  rw [if_neg (by omega), Array.getElem?_eq_none (by omega), Array.getElem?_eq_none (by simp; omega)]
theorem setCells_row (g : Nat) (t : TypeId) : ∀ (vs : List Value) (o : Nat) (w : World) (cur : Array Value), w.heap[g]? = some (.cells cur t (0, 0)) → w.setCells g o vs = w.setRow g (putAll cur o vs)
 | [], o, w, cur, h => (setRow_self w g cur t (0, 0) h).symm
 | v :: r, o, w, cur, h => by
  have h2 := heap_setCell_same w g o cur t v h
  rw [World.setCells, setCells_row g t r (o + 1) _ _ h2, setCell_eq_setRow w g o cur t (0, 0) v h, setRow_setRow, putAll]
theorem alloc_setRow (w : World) (cur cs : Array Value) (t : TypeId) : (w.alloc (.cells cur t)).setRow w.heap.size cs = w.alloc (.cells cs t) := by
 unfold World.alloc World.setRow
 congr 1
 apply Array.ext_getElem?
 intro j
 simp only [Array.getElem?_modify, Array.getElem?_push]
 by_cases h : w.heap.size = j
 ·
  simp [h]
 ·
  simp [h, show ¬ j = w.heap.size from fun e => h e.symm]
variable {P : Program}
theorem wpList_store_fresh {ops : Array Oper} {rest : List Oper} {op : Oper} {a : Act} (w : World) {Q : Exit → Act → World → Prop} (hgd : op.guard = none) (ty : TypeId) (x y : Operand) (ho : op.op = .store ty x y)
  (cur cells : Array Value) (t : TypeId) (hx : a.eval x = .pointer (some ⟨w.heap.size, 0, none⟩)) (hy : a.eval y = .agg cells) (hs : cur.size = cells.size)
  (hi : (P.info? ty).map (·.size) = some cells.size) (h1 : cells.all (·.oneCell') = true)
  (h : wpList P ops Q rest (a.put op.dst undef) (w.alloc (.cells cells t))) : wpList P ops Q (op :: rest) a (w.alloc (.cells cur t)) := by
 have hb := Blk.new w t cur
 refine wpList_store_mid hgd ty x y ho w.heap.size 0 cells hx hy (fun j hj => ?_) hi h1 ?_
 ·
  rw [show 0 + j = j by omega, hb.cell]
  exact ⟨by rw [Array.getElem?_eq_getElem (by omega)]; rfl, hb.frozen j⟩
 ·
  rw [setCells_row w.heap.size t cells.toList 0 _ cur hb, putAll_whole _ _ (by simpa using hs), alloc_setRow]
  simpa using h
theorem wpList_store_blk {ops : Array Oper} {rest : List Oper} {op : Oper} {a : Act} {w : World} {Q : Exit → Act → World → Prop} (hgd : op.guard = none) (ty : TypeId) (x y : Operand) (ho : op.op = .store ty x y)
  (g : Nat) (cur cells : Array Value) (t : TypeId) (hx : a.eval x = .pointer (some ⟨g, 0, none⟩)) (hy : a.eval y = .agg cells) (hb : Blk w g t cur) (hs : cur.size = cells.size)
  (hi : (P.info? ty).map (·.size) = some cells.size) (h1 : cells.all (·.oneCell') = true)
  (h : wpList P ops Q rest (a.put op.dst undef) (w.setRow g cells)) : wpList P ops Q (op :: rest) a w := by
 refine wpList_store_mid hgd ty x y ho g 0 cells hx hy (fun j hj => ?_) hi h1 ?_
 ·
  rw [show 0 + j = j by omega, hb.cell]
  exact ⟨by rw [Array.getElem?_eq_getElem (by omega)]; rfl, hb.frozen j⟩
 ·
  rw [setCells_row g t cells.toList 0 _ cur hb, putAll_whole _ _ (by simpa using hs)]
  simpa using h
theorem run_loadVar_at (w : World) (ad : Addr) (ty : TypeId) (cs : List Value) (d : TypeDesc) (hc : ∀ j u, cs[j]? = some u → w.cell? (ad.add j) = some u)
  (hu : P.underlying ty = some d) (hd : (match d with | .struct _ | .array _ _ => true | _ => false) = true) (hi : (P.info? ty).map (·.size) = some cs.length) :
  (loadVar ty ad).run P w = .ok (.agg cs.toArray) w := by
 have hl : (loadCells ad cs.length).run P w = .ok cs.toArray w := run_loadCells_list (P := P) w ad cs hc
 cases hq : P.info? ty with
 | none => simp [hq] at hi
 | some i =>
  have hs : i.size = cs.length := by simpa [hq] using hi
  have hagg : (isAgg ty).run P w = .ok true w := by
   unfold isAgg
   rw [Sem.run_bind, run_underlying hu w]
   cases d <;> simp_all
  simp [loadVar, Sem.run_bind, hagg, sizeOf, typeInfo, hq, hs, hl]
theorem wp_load_at {o : Oper} {a : Act} {w : World} {K : Act → World → Prop} {Q : Exit → Act → World → Prop} (ty : TypeId) (x : Operand) (ho : o.op = .load ty x)
  (ad : Addr) (hx : a.eval x = .pointer (some ad)) (cs : List Value) (d : TypeDesc) (hc : ∀ j u, cs[j]? = some u → w.cell? (ad.add j) = some u)
  (hu : P.underlying ty = some d) (hd : (match d with | .struct _ | .array _ _ => true | _ => false) = true) (hi : (P.info? ty).map (·.size) = some cs.length)
  (h : K (a.put o.dst (.agg cs.toArray)) w) : o.wp P a w K Q := by
 unfold Oper.wp execOp
 simp only [ho, hx, Instr.loadAt, Instr.sureAddr, Sem.run_bind, Sem.run_pure, Result.andThen_ok, run_loadVar_at w ad ty cs d hc hu hd hi]
 exact h
theorem wpList_load_at {ops : Array Oper} {rest : List Oper} {o : Oper} {a : Act} {w : World} {Q : Exit → Act → World → Prop} (hgd : o.guard = none) (ty : TypeId) (x : Operand) (ho : o.op = .load ty x)
  (ad : Addr) (hx : a.eval x = .pointer (some ad)) (cs : List Value) (d : TypeDesc) (hc : ∀ j u, cs[j]? = some u → w.cell? (ad.add j) = some u)
  (hu : P.underlying ty = some d) (hd : (match d with | .struct _ | .array _ _ => true | _ => false) = true) (hi : (P.info? ty).map (·.size) = some cs.length)
  (h : wpList P ops Q rest (a.put o.dst (.agg cs.toArray)) w) : wpList P ops Q (o :: rest) a w :=
 wpList_plain hgd fun _ hK => wp_load_at ty x ho ad hx cs d hc hu hd hi (hK _ _ h)
theorem Blk.setRow {w : World} {g : Nat} {t : TypeId} {cs cs' : Array Value} (h : Blk w g t cs) : Blk (w.setRow g cs') g t cs' := setRow_heap w g _ _ t _ h
theorem setRow_only (w : World) (b : Nat) (cs : Array Value) : w.grownBy (w.setRow b cs) (some b) :=
 ⟨rfl, rfl, rfl, by simp, fun i _ hne => setRow_other w b i cs (fun e => hne (by rw [e]))⟩
theorem wp_store_blk {P : Program} {op : Oper} {a : Act} {w : World} {K : Act → World → Prop} {Q : Exit → Act → World → Prop} (ty : TypeId) (x y : Operand) (ho : op.op = .store ty x y)
  (g : Nat) (cur cells : Array Value) (t : TypeId) (hx : a.eval x = .pointer (some ⟨g, 0, none⟩)) (hy : a.eval y = .agg cells) (hb : Blk w g t cur) (hs : cur.size = cells.size)
  (hi : (P.info? ty).map (·.size) = some cells.size) (h1 : cells.all (·.oneCell') = true)
  (h : K (a.put op.dst undef) (w.setRow g cells)) : op.wp P a w K Q := by
 refine wp_store_mid ty x y ho g 0 cells hx hy (fun j hj => ?_) hi h1 ?_
 ·
  rw [show 0 + j = j by omega, hb.cell]
  exact ⟨by rw [Array.getElem?_eq_getElem (by omega)]; rfl, hb.frozen j⟩
 ·
  rw [setCells_row g t cells.toList 0 _ cur hb, putAll_whole _ _ (by simpa using hs)]
  simpa using h
theorem add_zero_at (g n : Nat) : (⟨g, 0, none⟩ : Addr).add n = ⟨g, n, none⟩ := by unfold Addr.add; split <;> simp_all
theorem Blk.setOther {w : World} {g g' : Nat} {t : TypeId} {cs : Array Value} (h : Blk w g t cs) (hne : g ≠ g') (cs' : Array Value) : Blk (w.setRow g' cs') g t cs := (setRow_other w g' g cs' hne).trans h
end Go.Proofs.YtieppmppdmcleaaGreatDoor
/- Plain words of runes: what a text's bytes are as runes, one behind the other; its front of so many runes. No program in sight, no condition. -/
namespace Go.Proofs.YtieppmppdmcleaaGreatDoor.Tx
def bt (l : List UInt8) (k : Nat) : Nat := (l.getD k 0).toNat
theorem bt_lt (l : List UInt8) (k : Nat) : bt l k < 256 := (l.getD k 0).toNat_lt
def cont (l : List UInt8) (k : Nat) : Bool := decide (k < l.length) && bt l k / 64 == 2
def dc (l : List UInt8) : Nat × Nat :=
 if bt l 0 < 128 then (bt l 0, 1)
 else if bt l 0 / 32 == 6 && cont l 1 then
  if (bt l 0 % 32) * 64 + bt l 1 % 64 ≥ 128 then ((bt l 0 % 32) * 64 + bt l 1 % 64, 2) else (65533, 1)
 else if bt l 0 / 16 == 14 && cont l 1 && cont l 2 then
  if (bt l 0 % 16) * 4096 + (bt l 1 % 64) * 64 + bt l 2 % 64 ≥ 2048 && Utf8.valid ((bt l 0 % 16) * 4096 + (bt l 1 % 64) * 64 + bt l 2 % 64) then ((bt l 0 % 16) * 4096 + (bt l 1 % 64) * 64 + bt l 2 % 64, 3) else (65533, 1)
 else if bt l 0 / 8 == 30 && cont l 1 && cont l 2 && cont l 3 then
  if (bt l 0 % 8) * 262144 + (bt l 1 % 64) * 4096 + (bt l 2 % 64) * 64 + bt l 3 % 64 ≥ 65536 && Utf8.valid ((bt l 0 % 8) * 262144 + (bt l 1 % 64) * 4096 + (bt l 2 % 64) * 64 + bt l 3 % 64) then ((bt l 0 % 8) * 262144 + (bt l 1 % 64) * 4096 + (bt l 2 % 64) * 64 + bt l 3 % 64, 4) else (65533, 1)
 else (65533, 1)
theorem cont_lt {l : List UInt8} {k : Nat} (h : cont l k = true) : k < l.length := by
 simp only [cont, Bool.and_eq_true, decide_eq_true_eq] at h; exact h.1
theorem dc_pos (l : List UInt8) : 1 ≤ (dc l).2 := by
 unfold dc
 repeat' split
 all_goals simp
theorem dc_le (l : List UInt8) (h : l ≠ []) : (dc l).2 ≤ l.length := by
 have h0 : 0 < l.length := List.length_pos_iff.2 h
 unfold dc
 split
 ·
  exact h0
 ·
  split
  ·
   rename_i hc
   simp only [Bool.and_eq_true] at hc
   have := cont_lt hc.2
   split <;> simp <;> omega
  ·
   split
   ·
    rename_i hc
    simp only [Bool.and_eq_true] at hc
    have := cont_lt hc.2
    split <;> simp <;> omega
   ·
    split
    ·
     rename_i hc
     simp only [Bool.and_eq_true] at hc
     have := cont_lt hc.2
     split <;> simp <;> omega
    ·
     exact h0
theorem decode_dc (s : ByteArray) (pos : Nat) (h : pos < s.size) : Utf8.decode s pos = dc (s.data.toList.drop pos) := by
 have hg : ∀ k, pos + k < s.size → (s.get! (pos + k)).toNat = bt (s.data.toList.drop pos) k := by
  intro k hk
  have : s.get! (pos + k) = s.data.toList[pos + k]'(by simpa using hk) := by
   simp only [ByteArray.get!]
   rw [getElem!_pos s.data (pos + k) hk]
   simp
  rw [this, bt, List.getD_eq_getElem?_getD, List.getElem?_drop, List.getElem?_eq_getElem (by simpa using hk)]
  rfl
 have hc : ∀ k, (decide (pos + k < s.size) && (s.get! (pos + k)).toNat / 64 == 2) = cont (s.data.toList.drop pos) k := by
  intro k
  have hll : (s.data.toList.drop pos).length = s.size - pos := by rw [List.length_drop]; simp
  unfold cont
  by_cases hk : pos + k < s.size
  ·
   rw [hg k hk]
   have h1 : k < (s.data.toList.drop pos).length := by omega
   simp only [hk, h1, decide_true]
  ·
   have h1 : ¬ k < (s.data.toList.drop pos).length := by omega
   simp only [hk, h1, decide_false, Bool.false_and]
 have h0 := hg 0 (by omega)
 unfold Utf8.decode dc
 simp only [hc, h0, Utf8.runeError]
 by_cases c1 : cont (s.data.toList.drop pos) 1 = true
 ·
  have e1 := hg 1 (by have := cont_lt c1; rw [List.length_drop] at this; simp at this; omega)
  by_cases c2 : cont (s.data.toList.drop pos) 2 = true
  ·
   have e2 := hg 2 (by have := cont_lt c2; rw [List.length_drop] at this; simp at this; omega)
   by_cases c3 : cont (s.data.toList.drop pos) 3 = true
   ·
    have e3 := hg 3 (by have := cont_lt c3; rw [List.length_drop] at this; simp at this; omega)
    simp only [c1, c2, c3, e1, e2, e3]; rfl
   ·
    simp only [c1, c2, c3, e1, e2]; simp
  ·
   simp only [c1, c2, e1]; simp
 ·
  simp only [c1]; simp
def rn : Nat → List UInt8 → List (Nat × Nat)
 | 0, _ => []
 | f + 1, l => if l = [] then [] else dc l :: rn f (l.drop (dc l).2)
def runes (l : List UInt8) : List (Nat × Nat) := rn l.length l
theorem rn_enough : ∀ (f : Nat) (l : List UInt8), l.length ≤ f → rn f l = rn l.length l
 | 0, l, h => by rw [show l.length = 0 by omega]
 | f + 1, l, h => by
  by_cases hl : l = []
  ·
   subst hl; simp [rn]
  ·
   have h0 : 0 < l.length := List.length_pos_iff.2 hl
   obtain ⟨n, hn⟩ : ∃ n, l.length = n + 1 := ⟨l.length - 1, by omega⟩
   have hp := dc_pos l
   rw [hn, rn, rn, if_neg hl, if_neg hl, rn_enough f _ (by rw [List.length_drop]; omega), rn_enough n _ (by rw [List.length_drop]; omega)]
theorem runes_nil : runes [] = [] := rfl
theorem runes_cons (l : List UInt8) (h : l ≠ []) : runes l = dc l :: runes (l.drop (dc l).2) := by
 have h0 : 0 < l.length := List.length_pos_iff.2 h
 obtain ⟨n, hn⟩ : ∃ n, l.length = n + 1 := ⟨l.length - 1, by omega⟩
 have hp := dc_pos l
 rw [runes, hn, rn, if_neg h, rn_enough n _ (by rw [List.length_drop]; omega)]
 rfl
def posAt : List UInt8 → Nat → Nat
 | _, 0 => 0
 | l, k + 1 => if l = [] then 0 else (dc l).2 + posAt (l.drop (dc l).2) k
theorem posAt_spec : ∀ (k : Nat) (l : List UInt8), k ≤ (runes l).length → posAt l k ≤ l.length ∧ runes (l.drop (posAt l k)) = (runes l).drop k ∧
  (posAt l k < l.length → k < (runes l).length ∧ (runes l)[k]? = some (dc (l.drop (posAt l k))) ∧ posAt l (k + 1) = posAt l k + (dc (l.drop (posAt l k))).2) ∧ (¬ posAt l k < l.length → k = (runes l).length)
 | 0, l, _ => by
  refine ⟨Nat.zero_le _, by simp [posAt], fun h => ?_, fun h => ?_⟩
  ·
   have hl : l ≠ [] := List.length_pos_iff.1 (by simpa [posAt] using h)
   rw [runes_cons l hl]
   simp [posAt, hl]
  ·
   have hl : l = [] := List.eq_nil_of_length_eq_zero (by simpa [posAt] using h)
   subst hl; simp [runes_nil]
 | k + 1, l, h => by
  by_cases hl : l = []
  ·
   subst hl; simp [runes_nil] at h
  ·
   have hc := runes_cons l hl
   rw [hc] at h ⊢
   have hle := dc_le l hl
   obtain ⟨h1, h2, h3, h4⟩ := posAt_spec k (l.drop (dc l).2) (by simpa using h)
   have hpos : posAt l (k + 1) = (dc l).2 + posAt (l.drop (dc l).2) k := by rw [posAt, if_neg hl]
   have hpos2 : posAt l (k + 2) = (dc l).2 + posAt (l.drop (dc l).2) (k + 1) := by rw [posAt, if_neg hl]
   rw [List.length_drop] at h1 h3 h4
   rw [List.drop_drop] at h2 h3
   rw [hpos, hpos2]
   refine ⟨by omega, by simpa using h2, fun hlt => ?_, fun hlt => ?_⟩
   ·
    obtain ⟨q1, q2, q3⟩ := h3 (by omega)
    refine ⟨by simpa using q1, by simpa using q2, by rw [q3]; omega⟩
   ·
    have := h4 (by omega)
    simp [this]
end Go.Proofs.YtieppmppdmcleaaGreatDoor.Tx
namespace Go.Proofs.YtieppmppdmcleaaGreatDoor
open Go.RowKit Tx
theorem next_more {w : World} {g : Nat} {s : ByteArray} {l : List UInt8} {k : Nat} (hs : s.data.toList = l) (hk : k ≤ (runes l).length) (hit : w.heap[g]? = some (.stringIter s (posAt l k))) (hlt : k < (runes l).length) :
  ∃ r : Nat, (runes l)[k]? = some (dc (l.drop (posAt l k))) ∧ (dc (l.drop (posAt l k))).1 = r ∧ r ≤ 2147483647 ∧ posAt l k < s.size ∧
   (∀ ty, (Instr.next (.pointer (some ⟨g, 0, none⟩)) true ty).run Tryz.prog w = .ok (.tuple #[.bool true, .int .i64 (posAt l k : Nat), .int .i32 (r : Int)]) (w.iterAt g s (posAt l (k + 1)))) ∧
   (w.iterAt g s (posAt l (k + 1))).heap[g]? = some (.stringIter s (posAt l (k + 1))) ∧ k + 1 ≤ (runes l).length := by
 obtain ⟨h1, h2, h3, h4⟩ := posAt_spec k l hk
 have hsz : s.size = l.length := by rw [← hs, Lib.size_eq]
 have hp : posAt l k < l.length := by
  rcases Nat.lt_or_ge (posAt l k) l.length with h | h
  ·
   exact h
  ·
   have := h4 (by omega); omega
 obtain ⟨q1, q2, q3⟩ := h3 hp
 refine ⟨_, q2, rfl, ?_, by omega, fun ty => ?_, Lib.iterAt_heap w g s _ _ hit, by omega⟩
 ·
  have := decode_le s (posAt l k)
  rwa [decode_dc s _ (by omega), hs] at this
 ·
  rw [Lib.run_next_any_at w g s _ ty hit (by omega), decode_dc s _ (by omega), hs, q3]
theorem next_end {w : World} {g : Nat} {s : ByteArray} {l : List UInt8} {k : Nat} (hs : s.data.toList = l) (hk : k ≤ (runes l).length) (hit : w.heap[g]? = some (.stringIter s (posAt l k))) (hge : ¬ k < (runes l).length) :
  k = (runes l).length ∧ posAt l k = s.size ∧ ∀ ty, (Instr.next (.pointer (some ⟨g, 0, none⟩)) true ty).run Tryz.prog w = .ok (.tuple #[.bool false]) w := by
 obtain ⟨h1, h2, h3, h4⟩ := posAt_spec k l hk
 have hsz : s.size = l.length := by rw [← hs, Lib.size_eq]
 have hp : ¬ posAt l k < l.length := fun h => hge (h3 h).1
 exact ⟨by omega, by omega, fun ty => Lib.run_next_end_at w g s _ ty hit (by omega)⟩
theorem runes_le (l : List UInt8) : (runes l).length ≤ l.length := by
 have : ∀ (f : Nat) (l : List UInt8), (rn f l).length ≤ f := by
  intro f
  induction f with
  | zero => intro l; simp [rn]
  | succ f ih =>
   intro l
   rw [rn]
   split
   ·
    simp
   ·
    have := ih (l.drop (dc l).2)
    simp; omega
 exact this _ _
def validL (l : List UInt8) : Bool := (runes l).all fun x => x.1 != 65533
theorem valid_no {l : List UInt8} {k r : Nat} (h : (runes l)[k]? = some (dc (l.drop (posAt l k)))) (h2 : (dc (l.drop (posAt l k))).1 = r) (hr : r = 65533) : validL l = false := by
 rw [validL, List.all_eq_false]
 refine ⟨_, List.mem_of_getElem? h, ?_⟩
 rw [h2, hr]; simp
theorem valid_yes {l : List UInt8} (h : ∀ j x, j < (runes l).length → (runes l)[j]? = some x → x.1 ≠ 65533) : validL l = true := by
 rw [validL, List.all_eq_true]
 intro x hx
 obtain ⟨j, hj, he⟩ := List.getElem_of_mem hx
 have := h j x hj (by rw [List.getElem?_eq_getElem hj, he])
 simpa using this
theorem upto_succ {l : List UInt8} {k r : Nat} {p : Nat → Prop} (h : ∀ j x, j < k → (runes l)[j]? = some x → p x.1) (h1 : (runes l)[k]? = some (dc (l.drop (posAt l k)))) (h2 : (dc (l.drop (posAt l k))).1 = r) (hr : p r) : ∀ j x, j < k + 1 → (runes l)[j]? = some x → p x.1 := by
 intro j x hj hx
 rcases Nat.lt_or_ge j k with h' | h'
 ·
  exact h j x h' hx
 ·
  obtain rfl : j = k := by omega
  rw [h1] at hx
  injection hx with hx
  rw [← hx, h2]; exact hr
theorem valid_walk (s : ByteArray) (l : List UInt8) (hs : s.data.toList = l) (w : World) (hm : s.size ≤ 1000000) :
  Calls Tryz.prog 114 #[.string s] w fun e w' => e = .returned (.bool (validL l)) ∧ Below w.heap.size w w' := by
 have hrl := runes_le l
 have hsz : l.length = s.size := by rw [← hs, Lib.size_eq]
 go_enter Tryz.func114, Tryz.ntmps114
 go_wp2_with fail
 go_loopg [] ((runes l).length) (fun q wr => ∃ k : Nat, k + q = (runes l).length ∧ Hid (wr.heap[w.heap.size]? = some (.stringIter s (posAt l k))) ∧ Hid (∀ j x, j < k → (runes l)[j]? = some x → x.1 ≠ 65533) ∧ Below w.heap.size w wr)
 case atStart => exact ⟨0, by omega, World.iter_heap w s 0, fun j x hj => by omega, (Below.refl _ _).alloc (Nat.le_refl _) _⟩
 case round =>
  obtain ⟨k, hk, hit, hno, hbl⟩ := hrel
  by_cases hlt : k < (runes l).length
  ·
   obtain ⟨r, hr1, hr2, hr3, hp, hnx, hit2, hk2⟩ := next_more (w := wr) hs (by omega) hit.out hlt
   have hbl2 := Lib.below_iterAt hbl (Nat.le_refl _) s (posAt l (k + 1))
   have HIT := Lib.hid hit2
   by_cases hr : r = 65533
   ·
    have hv := Lib.hid (valid_no hr1 hr2 hr)
    have hb : ((r : Int) == 65533) = true := by rw [beq_iff_eq]; omega
    clear hr1 hr2 hit2 hr
    go_wp2_with fail
    go_ret
    exact ⟨by rw [hv.out]; rfl, hbl2⟩
   ·
    have hb : ((r : Int) == 65533) = false := by rw [beq_eq_false_iff_ne]; omega
    have HN := Lib.hid (upto_succ (p := fun x => x ≠ 65533) hno.out hr1 hr2 hr)
    clear hr1 hr2 hit2 hr
    go_wp2_with fail
    go_roundg (gk - 1)
    case rel => exact ⟨k + 1, by omega, HIT, HN, hbl2⟩
    case measure => omega
  ·
   obtain ⟨hke, hpe, hnx⟩ := next_end (w := wr) hs (by omega) hit.out hlt
   have hv := Lib.hid (valid_yes (fun j x hj => hno.out j x (by omega)))
   clear hke hpe
   go_wp2_with fail
   go_ret
   exact ⟨by rw [hv.out]; rfl, hbl⟩
end Go.Proofs.YtieppmppdmcleaaGreatDoor
namespace Go.Proofs.YtieppmppdmcleaaGreatDoor
open Go.RowKit
def digitB (c : Nat) : Bool := decide (48 ≤ c) && decide (c ≤ 57)
theorem str_at {s : ByteArray} {l : List UInt8} (hs : s.data.toList = l) {k : Nat} (hk : k < s.size) : (s[k]'hk).toNat = (l.getD k 0).toNat := by
 subst hs
 rw [List.getD_eq_getElem?_getD, List.getElem?_eq_getElem (by simpa using hk)]
 rfl
end Go.Proofs.YtieppmppdmcleaaGreatDoor
namespace Go.Proofs.YtieppmppdmcleaaGreatDoor
open Go.RowKit
end Go.Proofs.YtieppmppdmcleaaGreatDoor
