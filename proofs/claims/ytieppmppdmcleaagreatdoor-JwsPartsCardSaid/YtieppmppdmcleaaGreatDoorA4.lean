/- Several texts in one. No condition of its own. -/
import Derived.Test.YtieppmppdmcleaaGreatDoorKit
import Derived.Laws.StructEq
import Derived.Deep.MidRow
import Derived.Laws.Rows
set_option linter.unusedVariables false
set_option linter.unusedSimpArgs false
set_option maxRecDepth 20000
namespace Go.Proofs.YtieppmppdmcleaaGreatDoor
open Go.RowKit
/-- a tape: numbers, one behind the other, and the place -/
def TapeAt (w : World) (g : Nat) (zs : List Int) (at_ : Nat) : Prop :=
  at_ ≤ zs.length ∧ zs.length ≤ 9223372036854775807 ∧ (∀ z ∈ zs, -9223372036854775808 ≤ z ∧ z ≤ 9223372036854775807) ∧
  ∃ A c, zs.length ≤ c ∧ Blk w g 55 #[.slice A zs.length c, .int .i64 (at_ : Int)] ∧ Reads w g 1 A zs.length (zs.map (Value.int .i64))
theorem TapeAt.lt {w : World} {g : Nat} {zs : List Int} {k : Nat} (h : TapeAt w g zs k) : g < w.heap.size := by
  obtain ⟨_, _, _, A, c, _, hb, _⟩ := h
  exact hb.lt
theorem TapeAt.grown {w w' : World} {g : Nat} {zs : List Int} {k : Nat} {row : Option Nat} (h : TapeAt w g zs k) (hg : w.grownBy w' row) (hr : ∀ r, row = some r → g < r) : TapeAt w' g zs k := by
  have hl := h.lt
  obtain ⟨h1, h2, h3, A, c, hc, hb, hrd⟩ := h
  refine ⟨h1, h2, h3, A, c, hc, hb.grown hg (fun e => ?_), hrd.grown hg (by omega) (fun r e => ?_)⟩
  · have := hr g e.symm; omega
  · have := hr r e; omega
theorem TapeAt.below {w w' : World} {g : Nat} {zs : List Int} {k : Nat} (h : TapeAt w g zs k) (hb : Below (g + 1) w w') : TapeAt w' g zs k := by
  obtain ⟨h1, h2, h3, A, c, hc, hbk, hrd⟩ := h
  exact ⟨h1, h2, h3, A, c, hc, hbk.below hb (by omega), hrd.below (hb.mono (by omega))⟩
theorem TapeAt.drewN {w : World} {g : Nat} {zs : List Int} {k : Nat} (h : TapeAt w g zs k) (n : Nat) : TapeAt (w.drewN n) g zs k := h
theorem only_trans {a b c : World} {g : Nat} (h : a.grownBy b (some g)) (k : b.grownBy c (some g)) : a.grownBy c (some g) :=
  ⟨k.os.trans h.os, k.tape.trans h.tape, k.output.trans h.output, Nat.le_trans h.size k.size, fun i hi hne => (k.block i (Nat.lt_of_lt_of_le hi h.size) hne).trans (h.block i hi hne)⟩
theorem only_refl (a : World) (row : Option Nat) : a.grownBy a row := ⟨rfl, rfl, rfl, Nat.le_refl _, fun _ _ _ => rfl⟩
theorem TapeAt.step {w : World} {g : Nat} {zs : List Int} {k : Nat} (h : TapeAt w g zs k) (hlt : k < zs.length) : TapeAt (w.setCell ⟨g, 1, none⟩ (.int .i64 ((k : Int) + 1))) g zs (k + 1) := by
  obtain ⟨h1, h2, h3, A, c, hc, hb, hr⟩ := h
  refine ⟨by omega, h2, h3, A, c, hc, ?_, hr.setCell (Nat.le_refl _) _⟩
  have := hb.set_ 1 (.int .i64 ((k : Int) + 1))
  simpa using this
theorem reads_row (w : World) (e : TypeId) (us : List Value) : Reads (w.alloc (.cells us.toArray e)) (w.heap.size + 1) 1 (some ⟨w.heap.size, 0, none⟩) us.length us := by
  obtain ⟨h1, h2⟩ := reads_new w e us
  refine ⟨by simp, fun _ => ?_⟩
  obtain ⟨ad, e1, e2, e3⟩ := h2 (by omega)
  exact ⟨ad, e1, e2, e3⟩
def nextR (zs : List Int) (k : Nat) (n : Int) : Int := if k < zs.length ∧ 1 ≤ n then zs.getD k 0 % n else 0
def nextA (zs : List Int) (k : Nat) (n : Int) : Nat := if k < zs.length ∧ 1 ≤ n then k + 1 else k
theorem nextR_pos (zs : List Int) (k : Nat) (n : Int) (h : 1 ≤ n) : 0 ≤ nextR zs k n ∧ nextR zs k n < n := by
  unfold nextR
  split
  · exact ⟨Int.emod_nonneg _ (by omega), Int.emod_lt_of_pos _ (by omega)⟩
  · omega
theorem within1_walk (z n : Int) (w : World) (hn : 1 ≤ n) (hn2 : n ≤ 9223372036854775807) (hz : -9223372036854775808 ≤ z ∧ z ≤ 9223372036854775807) :
    Calls Tryz.prog 65 #[.int .i64 z, .int .i64 n] w fun e w' => e = .returned (.int .i64 (z % n)) ∧ w = w' := by
  have h0 := Int.emod_nonneg z (show n ≠ 0 by omega)
  have h1 := Int.emod_lt_of_pos z (show 0 < n by omega)
  obtain ⟨hz1, hz2⟩ := hz
  by_cases h : 0 ≤ z
  · go_enter Tryz.func65, Tryz.ntmps65
    go_wp2_with fail
    go_ret
    exact ⟨rfl, rfl⟩
  · obtain ⟨r, er⟩ : ∃ r, z.tmod n = r := ⟨_, rfl⟩
    have hr : r = z % n ∧ r = 0 ∨ r = z % n - n ∧ r < 0 := by
      rw [← er, Int.tmod_eq_emod]
      by_cases hd : n ∣ z
      · left
        have := Int.emod_eq_zero_of_dvd hd
        simp [hd]; omega
      · right
        simp only [hd, or_false, h, if_false]
        omega
    rcases hr with ⟨e1, e2⟩ | ⟨e1, e2⟩
    · have E := Lib.hid e1
      have hr0 : ¬ r < 0 := by omega
      have hz0 : z % n = 0 := by omega
      have hr0' : r = 0 := e2
      subst hr0'
      have HZ := Lib.hid hz0
      clear e1 hz0 h0 h1 e2
      go_enter Tryz.func65, Tryz.ntmps65
      go_wp2_with fail
      go_ret
      exact ⟨by rw [HZ.out]; rfl, rfl⟩
    · have E : Hid (r + n = z % n) := by show _ = _; omega
      have hr1 : -n ≤ r := by omega
      clear e1 h0 h1
      go_enter Tryz.func65, Tryz.ntmps65
      go_wp2_with fail
      go_ret
      exact ⟨by rw [← E.out]; rfl, rfl⟩
theorem more_walk (zs : List Int) (g k : Nat) (w : World) (ht : TapeAt w g zs k) :
    Calls Tryz.prog 64 #[.pointer (some ⟨g, 0, none⟩)] w fun e w' => e = .returned (.bool (decide (k < zs.length))) ∧ ∃ n, w' = w.drewN n := by
  obtain ⟨h1, h2, h3, A, c, hc, hb, hr⟩ := ht
  have c0 := hb.cell 0
  have c1 := hb.cell 1
  clear hr h3 hb
  simp at c0 c1
  by_cases hlt : k < zs.length
  · have hd : decide (k < zs.length) = true := by simpa using hlt
    go_enter Tryz.func64, Tryz.ntmps64
    go_wp2_with fail
    go_quiet (fail)
    go_wp2_with fail
    go_ret
    exact ⟨by first | rw [hd]; rfl | rfl, _, rfl⟩
  · have hd : decide (k < zs.length) = false := by simpa using hlt
    go_enter Tryz.func64, Tryz.ntmps64
    go_wp2_with fail
    go_quiet (fail)
    go_wp2_with fail
    go_ret
    exact ⟨by first | rw [hd]; rfl | rfl, _, rfl⟩
set_option maxHeartbeats 1000000 in
set_option maxRecDepth 100000 in
theorem next_walk (zs : List Int) (g k : Nat) (n : Int) (w : World) (ht : TapeAt w g zs k) (hn : -9223372036854775808 ≤ n ∧ n ≤ 9223372036854775807) :
    Calls Tryz.prog 42 #[.pointer (some ⟨g, 0, none⟩), .int .i64 n] w fun e w' => e = .returned (.int .i64 (nextR zs k n)) ∧ TapeAt w' g zs (nextA zs k n) ∧ w.grownBy w' (some g) ∧ w'.heap.size = w.heap.size := by
  obtain ⟨hn1, hn2⟩ := hn
  have cm := Lib.hid (more_walk zs g k w ht)
  by_cases hlt : k < zs.length
  · rw [show decide (k < zs.length) = true by simpa using hlt] at cm
    by_cases h1 : 1 ≤ n
    · have hv : Hid (nextR zs k n = zs.getD k 0 % n) := by show _ = _; rw [nextR, if_pos ⟨hlt, h1⟩]
      have hv2 : Hid (nextA zs k n = k + 1) := by show _ = _; rw [nextA, if_pos ⟨hlt, h1⟩]
      have hlt1 : ¬ n < 1 := by omega
      have HT := Lib.hid ht
      obtain ⟨t1, t2, t3, A, c, hc, hb, hr⟩ := ht
      obtain ⟨ad, u, rfl, had, hu, hcu⟩ := hr.at_ hlt
      have hu2 : u = .int .i64 (zs.getD k 0) := by
        rw [List.getElem?_map, List.getElem?_eq_getElem hlt] at hu
        simp at hu
        rw [← hu]; simp [hlt]
      have hz := t3 (zs.getD k 0) (by simp [hlt])
      have hex : ∃ z, Hid (zs.getD k 0 = z) ∧ u = .int .i64 z ∧ -9223372036854775808 ≤ z ∧ z ≤ 9223372036854775807 := ⟨_, rfl, hu2, hz⟩
      obtain ⟨z, hzz, rfl, hz1, hz2⟩ := hex
      have d2 : ∀ u, (w.setCell ⟨g, 1, none⟩ u).cell? (ad.add k) = some (.int .i64 z) := fun u => by
        rw [World.cell?_setCell_other w _ _ u (fun e => by have := block_of_add ad k; rw [← e] at this; simp at this; omega)]; exact hcu
      have c0 := hb.cell 0
      have c1 := hb.cell 1
      have f1 := hb.frozen 1
      simp at c0 c1
      have d0 : ∀ u, (w.setCell ⟨g, 1, none⟩ u).cell? ⟨g, 0, none⟩ = some (.slice (some ad) zs.length c) := fun u => by
        rw [World.cell?_setCell_other w _ _ u (fun e => by simp at e)]; exact c0
      have HR := Lib.hid hr
      have HB := Lib.hid hb
      have hs1 := Lib.hid (show IntKind.i64.wrap (k : Int) = k from IntWalk.i64_in _ (by omega))
      have cw := Lib.hid (within1_walk z n)
      clear hu2 hu hcu hz hr hb
      have T3 := Lib.hid t3
      clear t3
      have D0 := Lib.hid d0
      have D2 := Lib.hid d2
      clear d0 d2
      go_enter Tryz.func42, Tryz.ntmps42
      go_wp2_with fail
      refine (cm.out).mono ?_
      rintro _ w1 ⟨rfl, q, rfl⟩
      go_wp2_with fail
      have d2 : ((w.drewN q).setCell ⟨g, 1, none⟩ (.int .i64 ((k : Int) + 1))).cell? (ad.add k) = some (.int .i64 z) := D2.out _
      have hs := hs1.out
      go_quiet ((go_at_call 65; refine (cw.out _ h1 hn2 ⟨hz1, hz2⟩).mono ?_; rintro e w9 ⟨rfl, rfl⟩; exact ⟨rfl, _, rfl⟩))
      go_wp2_with fail
      go_ret
      refine ⟨by rw [hv.out, hzz.out]; rfl, ?_, only_drewN (only_setCell (only_drewN (only_refl _ _) _) (.inl rfl) _) _, ?_⟩
      · rw [hv2.out]; exact (HT.out.step hlt)
      · simp [World.setCell]
    · have hv : Hid (nextR zs k n = 0) := by show _ = _; rw [nextR, if_neg (fun h => h1 h.2)]
      have hv2 : Hid (nextA zs k n = k) := by show _ = _; rw [nextA, if_neg (fun h => h1 h.2)]
      go_enter Tryz.func42, Tryz.ntmps42
      go_wp2_with fail
      refine (cm.out).mono ?_
      rintro _ w1 ⟨rfl, q, rfl⟩
      go_wp2_with fail
      go_ret
      exact ⟨by rw [hv.out]; rfl, by rw [hv2.out]; exact ht, only_drewN (only_refl _ _) _, rfl⟩
  · rw [show decide (k < zs.length) = false by simpa using hlt] at cm
    have hv : Hid (nextR zs k n = 0) := by show _ = _; rw [nextR, if_neg (fun h => hlt h.1)]
    have hv2 : Hid (nextA zs k n = k) := by show _ = _; rw [nextA, if_neg (fun h => hlt h.1)]
    go_enter Tryz.func42, Tryz.ntmps42
    go_wp2_with fail
    refine (cm.out).mono ?_
    rintro _ w1 ⟨rfl, q, rfl⟩
    go_wp2_with fail
    go_ret
    exact ⟨by rw [hv.out]; rfl, by rw [hv2.out]; exact ht, only_drewN (only_refl _ _) _, rfl⟩
set_option maxHeartbeats 1000000 in
theorem pick_walk (zs : List Int) (g k : Nat) (A : Option Addr) (c B : Nat) (ss : List ByteArray) (h0 : 0 < ss.length) (hl : ss.length ≤ 1000000) (hc : ss.length ≤ c) (w : World) (ht : TapeAt w g zs k)
    (hr : Reads w B 1 A ss.length (ss.map Value.string)) (hB : B ≤ w.heap.size) (hne : ∀ p, A = some p → p.block ≠ g) :
    Calls Tryz.prog 45 #[.pointer (some ⟨g, 0, none⟩), .slice A ss.length c] w fun e w' => e = .returned (.string (ss.getD (nextR zs k ss.length).toNat ByteArray.empty)) ∧ TapeAt w' g zs (nextA zs k ss.length) ∧ w.grownBy w' (some g) ∧ w'.heap.size = w.heap.size := by
  have cn := Lib.hid (next_walk zs g k ss.length w ht (by omega))
  have hp := nextR_pos zs k ss.length (by omega)
  obtain ⟨r, er⟩ : ∃ r : Nat, nextR zs k ss.length = r := ⟨(nextR zs k ss.length).toNat, by omega⟩
  rw [er] at cn hp ⊢
  have hrl : r < ss.length := by omega
  obtain ⟨ad, u, rfl, had, hu, hcu⟩ := hr.at_ hrl
  have hne1 := hne ad rfl
  obtain rfl : u = .string (ss.getD r ByteArray.empty) := by
    rw [List.getElem?_map, List.getElem?_eq_getElem hrl] at hu
    simp at hu
    rw [← hu]; simp [hrl]
  obtain ⟨x, hx⟩ : ∃ x, ss.getD r ByteArray.empty = x := ⟨_, rfl⟩
  rw [Int.toNat_natCast, hx]
  rw [hx] at hcu
  have HC := Lib.hid hcu
  have hz : ((ss.length : Int) == 0) = false := by rw [beq_eq_false_iff_ne]; omega
  have HB := Lib.hid (show ad.block < w.heap.size by omega)
  clear hp er hr hne hu hx hcu
  go_enter Tryz.func45, Tryz.ntmps45
  go_wp2_with fail
  refine cn.out.mono ?_
  rintro _ w1 ⟨rfl, ht1, hg1, hs1⟩
  have hcell : w1.cell? (ad.add r) = some (.string x) := by
    rw [← HC.out]
    exact World.cell?_of_block (hg1.block _ (by rw [block_of_add]; exact HB.out) (fun e => by rw [block_of_add] at e; injection e with e; exact hne1 e))
  have HS := Lib.hid hs1
  clear hs1
  go_wp2_with fail
  go_ret
  exact ⟨rfl, ht1, hg1, HS.out⟩
end Go.Proofs.YtieppmppdmcleaaGreatDoor
set_option linter.unusedVariables false
set_option linter.unusedSimpArgs false
set_option maxRecDepth 20000
namespace Go.Proofs.YtieppmppdmcleaaGreatDoor
open Go.RowKit
/-- what a law is told of numbers that came in -/
def IntsIn (w : World) (A : Option Addr) (c : Nat) (zs : List Int) : Prop :=
  zs.length ≤ c ∧ zs.length ≤ 9223372036854775807 ∧ (∀ z ∈ zs, -9223372036854775808 ≤ z ∧ z ≤ 9223372036854775807) ∧ Reads w w.heap.size 1 A zs.length (zs.map (Value.int .i64))
theorem IntsIn.below {w w' : World} {A : Option Addr} {c : Nat} {zs : List Int} (h : IntsIn w A c zs) (hb : Below w.heap.size w w') : IntsIn w' A c zs :=
  ⟨h.1, h.2.1, h.2.2.1, (h.2.2.2.below hb).more hb.size⟩
theorem IsRow.intsIn {w : World} {a : Option Addr} {len cap : Nat} {zs : List Int} (h : IsRow .i64 w a len cap zs) : ∃ l : List Int, len = l.length ∧ IntsIn w a cap l := by
  obtain ⟨h1, h2, h3, h4⟩ := h.ints
  have hcap : cap ≤ 9223372036854775807 := by
    rcases h with ⟨_, _, rfl, _⟩ | ⟨x, _, _, hm, _⟩
    · omega
    · simpa [maxLen] using hm
  refine ⟨zs.take len, h3.symm, by omega, by omega, fun z hz => ?_, ?_⟩
  · have := h4 z hz
    simpa [Lit.wf, IntKind.min, IntKind.max, IntKind.signed, IntKind.bits] using this
  · rw [h3]; exact h1
theorem i64_wf {a : Int} (h : (Lit.int .i64 a).wf = true) : -9223372036854775808 ≤ a ∧ a ≤ 9223372036854775807 := by
  simpa [Lit.wf, IntKind.min, IntKind.max, IntKind.signed, IntKind.bits] using h
theorem u8_wf {a : Int} (h : (Lit.int .u8 a).wf = true) : 0 ≤ a ∧ a ≤ 255 := by
  simpa [Lit.wf, IntKind.min, IntKind.max, IntKind.signed, IntKind.bits] using h
end Go.Proofs.YtieppmppdmcleaaGreatDoor
/- Loads and stores of whole structs in blocks of their own. No condition of its own. -/
set_option linter.unusedVariables false
set_option linter.unusedSimpArgs false
set_option maxRecDepth 20000
namespace Go.Proofs.YtieppmppdmcleaaGreatDoor
open Go.RowKit
def putAll (cur : Array Value) : Nat → List Value → Array Value
  | _, [] => cur
  | o, v :: r => putAll (cur.setIfInBounds o v) (o + 1) r
theorem putAll_at : ∀ (vs : List Value) (o : Nat) (cur : Array Value), o + vs.length ≤ cur.size → ∀ j, (putAll cur o vs)[j]? = if o ≤ j ∧ j < o + vs.length then vs[j - o]? else cur[j]?
  | [], o, cur, _, j => by rw [putAll, if_neg (fun h => by have := h.1; have := h.2; simp at this; omega)]
  | v :: r, o, cur, h, j => by
    rw [putAll, putAll_at r (o + 1) _ (by simp at h ⊢; omega)]
    by_cases h1 : j = o
    · subst h1
      rw [if_neg (by omega), if_pos (by simp)]
      simp at h
      simp [Array.getElem?_setIfInBounds, show j < cur.size by omega]
    · by_cases h2 : o + 1 ≤ j ∧ j < o + 1 + r.length
      · rw [if_pos h2, if_pos (by simp; omega), show j - o = j - (o + 1) + 1 by omega]
        simp
      · rw [if_neg h2, if_neg (by simp; omega), Array.getElem?_setIfInBounds, if_neg (fun e => h1 e.symm)]
theorem putAll_whole (vs : List Value) (cur : Array Value) (h : cur.size = vs.length) : putAll cur 0 vs = vs.toArray := by
  apply Array.ext_getElem?
  intro j
  rw [putAll_at vs 0 cur (by omega)]
  by_cases hj : j < vs.length
  · rw [if_pos (by omega)]; simp
  · rw [if_neg (by omega), Array.getElem?_eq_none (by omega), Array.getElem?_eq_none (by simp; omega)]
theorem setCells_row (g : Nat) (t : TypeId) : ∀ (vs : List Value) (o : Nat) (w : World) (cur : Array Value), w.heap[g]? = some (.cells cur t (0, 0)) → w.setCells g o vs = w.setRow g (putAll cur o vs)
  | [], o, w, cur, h => (setRow_self w g cur t (0, 0) h).symm
  | v :: r, o, w, cur, h => by
    have h2 := heap_setCell_same w g o cur t v h
    rw [World.setCells, setCells_row g t r (o + 1) _ _ h2, setCell_eq_setRow w g o cur t (0, 0) v h, setRow_setRow, putAll]
theorem alloc_setRow (w : World) (cur cs : Array Value) (t : TypeId) : (w.alloc (.cells cur t)).setRow w.heap.size cs = w.alloc (.cells cs t) := by
  unfold World.alloc World.setRow
  congr 1
  apply Array.ext_getElem?
  intro j
  simp only [Array.getElem?_modify, Array.getElem?_push]
  by_cases h : w.heap.size = j
  · simp [h]
  · simp [h, show ¬ j = w.heap.size from fun e => h e.symm]
variable {P : Program}
/-- a whole record is stored into the block that was just laid -/
theorem wpList_store_fresh {ops : Array Oper} {rest : List Oper} {op : Oper} {a : Act} (w : World) {Q : Exit → Act → World → Prop} (hgd : op.guard = none) (ty : TypeId) (x y : Operand) (ho : op.op = .store ty x y)
    (cur cells : Array Value) (t : TypeId) (hx : a.eval x = .pointer (some ⟨w.heap.size, 0, none⟩)) (hy : a.eval y = .agg cells) (hs : cur.size = cells.size)
    (hi : (P.info? ty).map (·.size) = some cells.size) (h1 : cells.all (·.oneCell') = true)
    (h : wpList P ops Q rest (a.put op.dst undef) (w.alloc (.cells cells t))) : wpList P ops Q (op :: rest) a (w.alloc (.cells cur t)) := by
  have hb := Blk.new w t cur
  refine wpList_store_mid hgd ty x y ho w.heap.size 0 cells hx hy (fun j hj => ?_) hi h1 ?_
  · rw [show 0 + j = j by omega, hb.cell]
    exact ⟨by rw [Array.getElem?_eq_getElem (by omega)]; rfl, hb.frozen j⟩
  · rw [setCells_row w.heap.size t cells.toList 0 _ cur hb, putAll_whole _ _ (by simpa using hs), alloc_setRow]
    simpa using h
/-- a whole record is stored into a block that is known whole -/
theorem wpList_store_blk {ops : Array Oper} {rest : List Oper} {op : Oper} {a : Act} {w : World} {Q : Exit → Act → World → Prop} (hgd : op.guard = none) (ty : TypeId) (x y : Operand) (ho : op.op = .store ty x y)
    (g : Nat) (cur cells : Array Value) (t : TypeId) (hx : a.eval x = .pointer (some ⟨g, 0, none⟩)) (hy : a.eval y = .agg cells) (hb : Blk w g t cur) (hs : cur.size = cells.size)
    (hi : (P.info? ty).map (·.size) = some cells.size) (h1 : cells.all (·.oneCell') = true)
    (h : wpList P ops Q rest (a.put op.dst undef) (w.setRow g cells)) : wpList P ops Q (op :: rest) a w := by
  refine wpList_store_mid hgd ty x y ho g 0 cells hx hy (fun j hj => ?_) hi h1 ?_
  · rw [show 0 + j = j by omega, hb.cell]
    exact ⟨by rw [Array.getElem?_eq_getElem (by omega)]; rfl, hb.frozen j⟩
  · rw [setCells_row g t cells.toList 0 _ cur hb, putAll_whole _ _ (by simpa using hs)]
    simpa using h
theorem run_loadVar_at (w : World) (ad : Addr) (ty : TypeId) (cs : List Value) (d : TypeDesc) (hc : ∀ j u, cs[j]? = some u → w.cell? (ad.add j) = some u)
    (hu : P.underlying ty = some d) (hd : (match d with | .struct _ | .array _ _ => true | _ => false) = true) (hi : (P.info? ty).map (·.size) = some cs.length) :
    (loadVar ty ad).run P w = .ok (.agg cs.toArray) w := by
  have hl : (loadCells ad cs.length).run P w = .ok cs.toArray w := run_loadCells_list (P := P) w ad cs hc
  cases hq : P.info? ty with
  | none => simp [hq] at hi
  | some i =>
    have hs : i.size = cs.length := by simpa [hq] using hi
    have hagg : (isAgg ty).run P w = .ok true w := by
      unfold isAgg
      rw [Sem.run_bind, run_underlying hu w]
      cases d <;> simp_all
    simp [loadVar, Sem.run_bind, hagg, sizeOf, typeInfo, hq, hs, hl]
theorem wp_load_at {o : Oper} {a : Act} {w : World} {K : Act → World → Prop} {Q : Exit → Act → World → Prop} (ty : TypeId) (x : Operand) (ho : o.op = .load ty x)
    (ad : Addr) (hx : a.eval x = .pointer (some ad)) (cs : List Value) (d : TypeDesc) (hc : ∀ j u, cs[j]? = some u → w.cell? (ad.add j) = some u)
    (hu : P.underlying ty = some d) (hd : (match d with | .struct _ | .array _ _ => true | _ => false) = true) (hi : (P.info? ty).map (·.size) = some cs.length)
    (h : K (a.put o.dst (.agg cs.toArray)) w) : o.wp P a w K Q := by
  unfold Oper.wp execOp
  simp only [ho, hx, Instr.loadAt, Instr.sureAddr, Sem.run_bind, Sem.run_pure, Result.andThen_ok, run_loadVar_at w ad ty cs d hc hu hd hi]
  exact h
theorem wpList_load_at {ops : Array Oper} {rest : List Oper} {o : Oper} {a : Act} {w : World} {Q : Exit → Act → World → Prop} (hgd : o.guard = none) (ty : TypeId) (x : Operand) (ho : o.op = .load ty x)
    (ad : Addr) (hx : a.eval x = .pointer (some ad)) (cs : List Value) (d : TypeDesc) (hc : ∀ j u, cs[j]? = some u → w.cell? (ad.add j) = some u)
    (hu : P.underlying ty = some d) (hd : (match d with | .struct _ | .array _ _ => true | _ => false) = true) (hi : (P.info? ty).map (·.size) = some cs.length)
    (h : wpList P ops Q rest (a.put o.dst (.agg cs.toArray)) w) : wpList P ops Q (o :: rest) a w :=
  wpList_plain hgd fun _ hK => wp_load_at ty x ho ad hx cs d hc hu hd hi (hK _ _ h)
theorem Blk.setRow {w : World} {g : Nat} {t : TypeId} {cs cs' : Array Value} (h : Blk w g t cs) : Blk (w.setRow g cs') g t cs' := setRow_heap w g _ _ t _ h
theorem setRow_only (w : World) (b : Nat) (cs : Array Value) : w.grownBy (w.setRow b cs) (some b) :=
  ⟨rfl, rfl, rfl, by simp, fun i _ hne => setRow_other w b i cs (fun e => hne (by rw [e]))⟩
theorem only_setRow {a w : World} {row : Option Nat} (h : a.grownBy w row) {b : Nat} (hb : a.heap.size ≤ b) (cs : Array Value) : a.grownBy (w.setRow b cs) row :=
  ⟨h.os, h.tape, h.output, by rw [size_setRow]; exact h.size, fun i hi hne => (setRow_other w b i cs (by omega)).trans (h.block i hi hne)⟩
theorem wp_store_blk {P : Program} {op : Oper} {a : Act} {w : World} {K : Act → World → Prop} {Q : Exit → Act → World → Prop} (ty : TypeId) (x y : Operand) (ho : op.op = .store ty x y)
    (g : Nat) (cur cells : Array Value) (t : TypeId) (hx : a.eval x = .pointer (some ⟨g, 0, none⟩)) (hy : a.eval y = .agg cells) (hb : Blk w g t cur) (hs : cur.size = cells.size)
    (hi : (P.info? ty).map (·.size) = some cells.size) (h1 : cells.all (·.oneCell') = true)
    (h : K (a.put op.dst undef) (w.setRow g cells)) : op.wp P a w K Q := by
  refine wp_store_mid ty x y ho g 0 cells hx hy (fun j hj => ?_) hi h1 ?_
  · rw [show 0 + j = j by omega, hb.cell]
    exact ⟨by rw [Array.getElem?_eq_getElem (by omega)]; rfl, hb.frozen j⟩
  · rw [setCells_row g t cells.toList 0 _ cur hb, putAll_whole _ _ (by simpa using hs)]
    simpa using h
theorem add_zero_at (g n : Nat) : (⟨g, 0, none⟩ : Addr).add n = ⟨g, n, none⟩ := by unfold Addr.add; split <;> simp_all
theorem Blk.setOther {w : World} {g g' : Nat} {t : TypeId} {cs : Array Value} (h : Blk w g t cs) (hne : g ≠ g') (cs' : Array Value) : Blk (w.setRow g' cs') g t cs := (setRow_other w g' g cs' hne).trans h
end Go.Proofs.YtieppmppdmcleaaGreatDoor
