/- json.quoted: a text as it is written. Condition: a small text. -/
import Derived.Test.YtieppmppdmcleaaGreatDoorJm
import Derived.Lib.ItoaLen
set_option linter.unusedVariables false
set_option linter.unusedSimpArgs false
set_option maxRecDepth 20000
namespace Go.Proofs.YtieppmppdmcleaaGreatDoor
open Go.RowKit
def escL (l : List UInt8) : List UInt8 := l.flatMap escB
theorem escB_le (b : UInt8) : (escB b).length ≤ 6 := by
 unfold escB; split
 ·
  simp
 ·
  split <;> simp
theorem escL_le : ∀ l : List UInt8, (escL l).length ≤ 6 * l.length
 | [] => by simp [escL]
 | b :: l => by
  have h1 := escB_le b
  have h2 := escL_le l
  simp only [escL, List.flatMap_cons, List.length_append, List.length_cons] at h2 ⊢
  omega
theorem escL_take {l : List UInt8} {k : Nat} (h : k < l.length) : escL (l.take (k + 1)) = escL (l.take k) ++ escB (l.getD k 0) := by
 rw [List.take_add_one, List.getElem?_eq_getElem h]
 rw [escL, List.flatMap_append, List.getD, List.getElem?_eq_getElem h]
 simp [escL]
theorem hexS : ∀ p, p < 16 → (⟨#[48, 49, 50, 51, 52, 53, 54, 55, 56, 57, 97, 98, 99, 100, 101, 102]⟩ : ByteArray).extract p (p + 1) = ⟨#[hexD p]⟩ := by
 intro p hp
 have : ∀ p : Fin 16, ((⟨#[48, 49, 50, 51, 52, 53, 54, 55, 56, 57, 97, 98, 99, 100, 101, 102]⟩ : ByteArray).extract p.val (p.val + 1)).data.toList = [hexD p.val] := by decide +kernel
 have h := this ⟨p, hp⟩
 exact str_eta _ _ h
theorem wrap_u8 (a : Int) : IntKind.u8.wrap a = a % 256 := by simp [IntKind.wrap, IntKind.signed, IntKind.bits]
theorem and15 (b : Nat) (h : b < 256) : bits .and .u8 (b : Int) 15 = ((b % 16 : Nat) : Int) := by
 have : ∀ b : Fin 256, bits .and .u8 (b.val : Int) 15 = ((b.val % 16 : Nat) : Int) := by decide +kernel
 exact this ⟨b, h⟩
set_option maxHeartbeats 8000000 in
theorem quoted_walk (s : ByteArray) (l : List UInt8) (hs : s.data.toList = l) (w : World) (hm : s.size ≤ 1000000) :
  Calls Tryz.prog 119 #[.string s] w fun e w' => e = .returned (.string ⟨(quotedL l).toArray⟩) ∧ Below w.heap.size w w' := by
 have hsz : l.length = s.size := by rw [← hs, Lib.size_eq]
 have hw0 := Lib.hid (Tryz.Builder_WriteByte_k w.heap.size w.heap.size [] 34 (w.alloc (.cells #[.pointer none, .slice none 0 0] 111)) (builder_new _ _ w) (by simp) (by simp))
 go_enter Tryz.func119, Tryz.ntmps119
 go_wp2_with fail
 refine hw0.out.mono ?_
 rintro _ w1 ⟨rfl, hb1, hbl1, hoth⟩
 have HB1 : Hid (Lib.BuilderAtF 111 5 w.heap.size w.heap.size (.pointer (some ⟨w.heap.size, 0, none⟩)) (Lib.byteCells (34 :: escL (l.take 0))) w1) := hb1
 have HBL := Lib.hid (((Below.refl w.heap.size w).alloc (Nat.le_refl _) (.cells #[.pointer none, .slice none 0 0] 111)).trans hbl1)
 clear hb1 hbl1 hoth hw0
 go_wp2_with fail
 go_loopw [9] (fun nv wr => ∃ k : Nat, k ≤ s.size ∧ nv = .int .i64 k ∧ Hid (Lib.BuilderAtF 111 5 w.heap.size w.heap.size (.pointer (some ⟨w.heap.size, 0, none⟩)) (Lib.byteCells (34 :: escL (l.take k))) wr) ∧ Hid (Below w.heap.size w wr)) (fun nv _ => s.size - (intOf nv).toNat)
 case atStart => exact ⟨0, by omega, rfl, HB1, HBL⟩
 case round =>
  clear HB1 HBL
  obtain ⟨k, hk, rfl, hbd, hbl⟩ := hrel
  have hol : (escL (l.take k)).length ≤ 6000000 := by
   have := escL_le (l.take k)
   rw [List.length_take] at this
   omega
  have hls := hbl.out.size
  by_cases hlt : k < s.size
  ·
   obtain ⟨b, eb, hb, hb2⟩ : ∃ b : Nat, (s[k]'hlt).toNat = b ∧ Hid ((l.getD k 0).toNat = b) ∧ b < 256 := ⟨_, str_at hs hlt, rfl, (l.getD k 0).toNat_lt⟩
   have HST := Lib.hid (escL_take (l := l) (k := k) (by omega))
   have hub : Hid (l.getD k 0 = UInt8.ofNat b) := by show _ = _; rw [← hb.out]; simp
   by_cases h32 : b < 32
   ·
    have hnew : Hid (escB (l.getD k 0) = [92, 117, 48, 48, hexD (b / 16), hexD (b % 16)]) := by
     show _ = _
     rw [escB, if_neg (by rw [hub.out]; simp [← UInt8.toNat_inj]; omega), if_pos (by rw [UInt8.lt_iff_toNat_lt, hb.out]; exact h32), hb.out]
    have d1 : ((b : Int) == 34) = false := by simp; omega
    have d2 : ((b : Int) == 92) = false := by simp; omega
    have d3 : decide ((b : Int) < 32) = true := by simp; omega
    obtain ⟨p, hp⟩ : ∃ p, b / 16 = p := ⟨_, rfl⟩
    obtain ⟨q, hq⟩ : ∃ q, b % 16 = q := ⟨_, rfl⟩
    have hp16 : p < 16 := by omega
    have hq16 : q < 16 := by omega
    rw [hp, hq] at hnew
    have e1 : (b : Int) / 16 = (p : Int) := by omega
    have e2 : IntKind.u8.wrap ((p : Int) + 1) = (p : Int) + 1 := by rw [wrap_u8]; omega
    have e3 : (p : Int) + 1 ≤ 16 := by omega
    have e4 := hexS p hp16
    have e5 : (0 : Int) ≤ (p : Int) + 1 := by omega
    have e6 : (p : Int) ≤ (p : Int) + 1 := by omega
    have f1 : bits .and .u8 (b : Int) 15 = (q : Int) := by rw [and15 b hb2, hq]
    have f2 : IntKind.u8.wrap ((q : Int) + 1) = (q : Int) + 1 := by rw [wrap_u8]; omega
    have f3 : (q : Int) + 1 ≤ 16 := by omega
    have f4 := hexS q hq16
    have f5 : (0 : Int) ≤ (q : Int) + 1 := by omega
    have f6 : (q : Int) ≤ (q : Int) + 1 := by omega
    clear hp hq
    go_wp2_with fail
    refine wp_region_held_drew (S := fun W => True) (by kernel_rfl) trivial (fun hHeld => ?_)
    refine tkr 0 rfl ?_
    try simp only [nrm, Act.put]
    refine tkr 1 rfl ?_
    try simp only [nrm, Act.put]
    refine tkr 2 rfl ?_
    try simp only [nrm, Act.put]
    refine tkr 3 rfl ?_
    try simp only [nrm, Act.put]
    refine tkr 4 rfl ?_
    try simp only [nrm, Act.put]
    refine tkr 5 rfl ?_
    try simp only [nrm, Act.put]
    refine tkr 6 rfl ?_
    try simp only [nrm, Act.put]
    refine tkr 7 rfl ?_
    try simp only [nrm, Act.put]
    refine tkr 8 rfl ?_
    try simp only [nrm, Act.put]
    refine tkr 9 rfl ?_
    try simp only [nrm, Act.put]
    refine tkr 10 rfl ?_
    try simp only [nrm, Act.put]
    refine tkr 11 rfl ?_
    try simp only [nrm, Act.put]
    refine tkr 12 rfl ?_
    try simp only [nrm, Act.put]
    refine tkr 13 rfl ?_
    try simp only [nrm, Act.put]
    refine rd1 14 rfl fun K hK => ?_
    have hws := Tryz.Builder_WriteString_k w.heap.size w.heap.size (Lib.byteCells (34 :: escL (l.take k))) ((⟨#[92, 117, 48, 48]⟩ ++ ⟨#[hexD p]⟩) ++ ⟨#[hexD q]⟩) wr.drew (.inr hbd.out) (by rw [Lib.byteCells_length, List.length_cons]; simp [ByteArray.size_append, ByteArray.size]; omega) hls
    go_simp
    go_at_call 78
    with_reducible refine (hws).mono ?_
    rintro _ w2 ⟨rfl, hb2', hbl2, hoth⟩
    have hcs : Lib.byteCells (34 :: escL (l.take k)) ++ Lib.strCells ((⟨#[92, 117, 48, 48]⟩ ++ ⟨#[hexD p]⟩) ++ ⟨#[hexD q]⟩) = Lib.byteCells (34 :: escL (l.take (k + 1))) := by
     rw [HST.out, hnew.out]
     simp [Lib.byteCells, Lib.strCells]
    rw [hcs] at hb2'
    refine hK.out _ _ trivial (fun hHeld => ?_)
    clear hK K
    try simp only [nrm, Act.put]
    refine wpAnyH_done (by kernel_rfl) ?_ _
    have HB2 := Lib.hid hb2'
    have HBL2 := Lib.hid ((hbl.out.drew).trans hbl2)
    clear hcs hb2' hbl2 hoth hws hHeld e1 e2 e3 e4 e5 e6 f1 f2 f3 f4 f5 f6
    go_wp2_with fail
    exact ⟨⟨k + 1, by omega, by go_num, HB2, HBL2⟩, by simp [intOf]; omega⟩
   ·
    have d3 : decide ((b : Int) < 32) = false := by simp; omega
    by_cases hq : b = 34 ∨ b = 92
    ·
     have hnew : Hid (escB (l.getD k 0) = [92, UInt8.ofNat b]) := by
      show _ = _
      rw [escB, hub.out, if_pos]
      rcases hq with rfl | rfl
      ·
       left; rfl
      ·
       right; rfl
     have hwb := Lib.hid (fun hB => Tryz.Builder_WriteByte_k w.heap.size w.heap.size (Lib.byteCells (34 :: escL (l.take k))) 92 wr (.inr hbd.out) (by rw [Lib.byteCells_length, List.length_cons]; omega) hB)
     have hdd : ((b : Int) == 34) = true ∨ ((b : Int) == 34) = false ∧ ((b : Int) == 92) = true := by
      rcases hq with h | h
      ·
       left; simp; omega
      ·
       right; constructor <;> (simp; omega)
     clear hq
     rcases hdd with d1 | ⟨d1, d2⟩
     all_goals
      go_wp2_with fail
      refine (hwb.out hls).mono ?_
      rintro _ w2 ⟨rfl, hb2', hbl2, hoth⟩
      have hbl3 := hbl.out.trans hbl2
      have hwc := Lib.hid (Tryz.Builder_WriteByte_k w.heap.size w.heap.size _ (b : Int) w2 (.inr hb2') (by rw [List.length_append, Lib.byteCells_length, List.length_cons]; simp; omega) hbl3.size)
      clear hb2' hbl2 hoth
      go_wp2_with fail
      refine hwc.out.mono ?_
      rintro _ w3 ⟨rfl, hb3, hbl4, hoth⟩
      have HB3 : Hid (Lib.BuilderAtF 111 5 w.heap.size w.heap.size (.pointer (some ⟨w.heap.size, 0, none⟩)) (Lib.byteCells (34 :: escL (l.take (k + 1)))) w3) := by
       show Lib.BuilderAtF _ _ _ _ _ _ _
       rw [HST.out, hnew.out]
       have e : (b : Int) % 256 = (b : Int) := by omega
       simpa [Lib.byteCells, e] using hb3
      have HBL3 := Lib.hid (hbl3.trans hbl4)
      clear hb3 hbl4 hbl3 hoth hwc
      go_wp2_with fail
      exact ⟨⟨k + 1, by omega, by go_num, HB3, HBL3⟩, by simp [intOf]; omega⟩
    ·
     have hnew : Hid (escB (l.getD k 0) = [UInt8.ofNat b]) := by
      show _ = _
      rw [escB, hub.out, if_neg (by simp [← UInt8.toNat_inj]; omega), if_neg (by rw [UInt8.lt_iff_toNat_lt]; simp; omega)]
     have d1 : ((b : Int) == 34) = false := by simp; omega
     have d2 : ((b : Int) == 92) = false := by simp; omega
     have hwb := Lib.hid (fun hB => Tryz.Builder_WriteByte_k w.heap.size w.heap.size (Lib.byteCells (34 :: escL (l.take k))) (b : Int) wr (.inr hbd.out) (by rw [Lib.byteCells_length, List.length_cons]; omega) hB)
     go_wp2_with fail
     refine (hwb.out hls).mono ?_
     rintro _ w2 ⟨rfl, hb2', hbl2, hoth⟩
     have HB3 : Hid (Lib.BuilderAtF 111 5 w.heap.size w.heap.size (.pointer (some ⟨w.heap.size, 0, none⟩)) (Lib.byteCells (34 :: escL (l.take (k + 1)))) w2) := by
      show Lib.BuilderAtF _ _ _ _ _ _ _
      rw [HST.out, hnew.out]
      have e : (b : Int) % 256 = (b : Int) := by omega
      simpa [Lib.byteCells, e] using hb2'
     have HBL3 := Lib.hid (hbl.out.trans hbl2)
     clear hb2' hbl2 hoth hwb
     go_wp2_with fail
     exact ⟨⟨k + 1, by omega, by go_num, HB3, HBL3⟩, by simp [intOf]; omega⟩
  ·
   obtain rfl : k = s.size := by omega
   have htk : l.take s.size = l := by rw [← hsz, List.take_length]
   rw [htk] at hbd hol
   have hwb := Lib.hid (Tryz.Builder_WriteByte_k w.heap.size w.heap.size (Lib.byteCells (34 :: escL l)) 34 wr (.inr hbd.out) (by rw [Lib.byteCells_length, List.length_cons]; omega) hls)
   go_wp2_with fail
   refine hwb.out.mono ?_
   rintro _ w2 ⟨rfl, hb2', hbl2, hoth⟩
   have hbl3 := hbl.out.trans hbl2
   have hb3 : Lib.BuilderAtF 111 5 w.heap.size w.heap.size (.pointer (some ⟨w.heap.size, 0, none⟩)) (Lib.byteCells (quotedL l)) w2 := by
    have e : quotedL l = 34 :: escL l ++ [34] := rfl
    rw [e, Lib.byteCells_append]
    exact hb2'
   have hsr := Lib.hid (Tryz.Builder_String_any_k w.heap.size w.heap.size (quotedL l) w2 (.inr hb3) hbl3.size)
   clear hb3 hb2' hbl2 hoth hwb
   go_wp2_with fail
   refine hsr.out.mono ?_
   rintro _ w3 ⟨rfl, hb4, hbl4, hoth⟩
   have HBL4 := Lib.hid (hbl3.trans hbl4)
   clear hb4 hbl4 hoth hbl3
   go_wp2_with fail
   go_ret
   exact ⟨rfl, HBL4.out⟩
end Go.Proofs.YtieppmppdmcleaaGreatDoor
/- What json's print makes, in plain words: sizes; strings.Join over a row of texts; the laid table. No condition of its own. -/
namespace Go.Proofs.YtieppmppdmcleaaGreatDoor
open Go.RowKit Go.Sort
mutual
def szJ : Jv → Nat
 | .mk _ _ _ s names kids => 1 + s.length + (names.map fun p => p.length + 1).sum + szJs kids
def szJs : List Jv → Nat
 | [] => 0
 | k :: ks => szJ k + szJs ks
end
theorem szJs_le : ∀ {ks : List Jv} {k : Jv}, k ∈ ks → szJ k ≤ szJs ks
 | [], k, h => by simp at h
 | x :: ks, k, h => by
  rw [szJs]
  rcases List.mem_cons.1 h with e | h
  ·
   rw [e]; omega
  ·
   have := szJs_le h; omega
theorem szJs_len : ∀ ks : List Jv, ks.length ≤ szJs ks
 | [] => by simp
 | .mk _ _ _ _ _ _ :: ks => by
  rw [szJs, List.length_cons, szJ]
  have := szJs_len ks
  omega
def lens1 (l : List (List UInt8)) : Nat := (l.map fun p => p.length + 1).sum
theorem jp_lens (l : List (List UInt8)) : (Lib.join l [44]).length ≤ lens1 l := by
 cases l with
 | nil => simp [Lib.join_nil]
 | cons x r =>
  rw [Lib.join_length]
  have : ∀ l : List (List UInt8), lens1 l = Lib.lens l + l.length := by
   intro l
   induction l with
   | nil => rfl
   | cons y t ih => simp only [lens1, List.map_cons, List.sum_cons] at ih ⊢; rw [ih]; simp [Lib.lens]; omega
  rw [this]
  simp
  omega
theorem quotedL_le (s : List UInt8) : (quotedL s).length ≤ 6 * s.length + 2 := by
 have := escL_le s
 simp only [escL] at this
 simp only [quotedL, List.length_cons, List.length_append, List.length_nil]
 omega
theorem names_head (names : List (List UInt8)) : (names.headD []).length + (names.tail.map fun p => p.length + 1).sum ≤ (names.map fun p => p.length + 1).sum := by
 cases names with
 | nil => simp
 | cons n r => simp <;> omega
mutual
theorem jprint_le : ∀ v : Jv, smJ v → (jprint v).length + 4 ≤ 28 * szJ v
 | .mk k b n s names kids, h => by
  rw [smJ] at h
  obtain ⟨_, hn, _, _, _, _, hk⟩ := h
  have h1 := jprintL_le kids hk
  have h2 := jprintO_le names kids hk
  have h3 := jp_lens (jprintL kids)
  have h4 := jp_lens (jprintO names kids)
  have h5 := quotedL_le s
  have h6 := Lib.itoa_length_le n hn.1 hn.2
  rw [jprint, szJ]
  split
  ·
   simp only [List.length_cons, List.length_nil]; omega
  ·
   split
   ·
    cases b <;> simp <;> omega
   ·
    split
    ·
     omega
    ·
     split
     ·
      omega
     ·
      split
      ·
       simp only [List.length_cons, List.length_append, List.length_nil]; omega
      ·
       simp only [List.length_cons, List.length_append, List.length_nil]; omega
theorem jprintL_le : ∀ ks : List Jv, smJs ks → lens1 (jprintL ks) ≤ 28 * szJs ks
 | [], _ => by simp [jprintL, lens1]
 | v :: vs, h => by
  rw [smJs] at h
  have h1 := jprint_le v h.1
  have h2 := jprintL_le vs h.2
  rw [jprintL, szJs]
  simp only [lens1, List.map_cons, List.sum_cons] at h2 ⊢
  omega
theorem jprintO_le : ∀ (names : List (List UInt8)) (ks : List Jv), smJs ks → lens1 (jprintO names ks) ≤ 28 * szJs ks + 6 * (names.map fun p => p.length + 1).sum
 | names, [], _ => by simp [jprintO, lens1]
 | names, v :: vs, h => by
  rw [smJs] at h
  have h1 := jprint_le v h.1
  have h2 := jprintO_le names.tail vs h.2
  have h3 := quotedL_le (names.headD [])
  have h4 := names_head names
  rw [jprintO, szJs]
  simp only [lens1, List.map_cons, List.sum_cons, List.length_append, List.length_cons] at h2 ⊢
  omega
end
def Tab (w : World) : Prop := Lib.TabIs Tryz.prog w "internal/strconv.uint64pow10" .u64 Lib.pow10Tab
theorem var_below {B g : Nat} {W W' : World} {n : String} {cs : Array Value} (h : Below B W W') (hg : Tryz.prog.globalNamed n = some g) (hgB : g < B) (hv : W.var? Tryz.prog n = some cs) : W'.var? Tryz.prog n = some cs := by
 simp only [World.var?, hg, Option.bind_some] at hv ⊢
 rw [h.block _ hgB]; exact hv
theorem tab_named : Tryz.prog.globalNamed "internal/strconv.uint64pow10" = some 5 := by kernel_rfl
theorem var_lt {g : Nat} {W : World} {n : String} {cs : Array Value} (hg : Tryz.prog.globalNamed n = some g) (hv : W.var? Tryz.prog n = some cs) : g < W.heap.size := by
 simp only [World.var?, hg, Option.bind_some] at hv
 rcases Nat.lt_or_ge g W.heap.size with h | h
 ·
  exact h
 ·
  rw [Array.getElem?_eq_none h] at hv; simp at hv
theorem Tab.below {w w' : World} (h : Tab w) (hb : Below w.heap.size w w') : Tab w' := var_below hb tab_named (var_lt tab_named h) h
theorem grow_below (w : World) (k : Nat) (os : Array Obj) : Below w.heap.size w (grow (w.drewN k) os) :=
 ⟨rfl, rfl, rfl, by simp [grow], fun j hj => by simp [grow, Array.getElem?_append, hj]⟩
theorem itoa_walk (n : Int) (h0 : -9223372036854775808 ≤ n) (h1 : n ≤ 9223372036854775807) (w : World) (ht : Tab w) :
  Calls Tryz.prog 118 #[.int .i64 n] w fun e w' => e = .returned (.string ⟨(Lib.itoa n).toArray⟩) ∧ Below w.heap.size w w' := by
 refine (Tryz.strconv_Itoa n h0 h1 w ht).mono ?_
 rintro _ w1 ⟨rfl, k, os, rfl⟩
 exact ⟨rfl, grow_below w k os⟩
theorem join_walk (A : Option Addr) (c B : Nat) (ps : List (List UInt8)) (w : World) (hr : Reads w B 1 A ps.length (strVs ps)) (hc : ps.length ≤ c) (hB : B ≤ w.heap.size) (hl : lens1 ps ≤ 100000000) :
  Calls Tryz.prog 51 #[.slice A ps.length c, .string ⟨#[44]⟩] w fun e w' => e = .returned (.string ⟨(Lib.join ps [44]).toArray⟩) ∧ Below w.heap.size w w' := by
 have hjl := jp_lens ps
 have hpl : ps.length ≤ lens1 ps := by
  clear hr hc hl hjl
  induction ps with
  | nil => simp
  | cons x r ih => simp only [lens1, List.map_cons, List.sum_cons, List.length_cons] at ih ⊢; omega
 by_cases h0 : ps.length = 0
 ·
  have e1 : ps = [] := List.eq_nil_of_length_eq_zero h0
  subst e1
  refine (Tryz.strings_Join_none A c ⟨#[44]⟩ w).mono ?_
  rintro _ w1 ⟨rfl, rfl⟩
  exact ⟨rfl, Below.refl _ _⟩
 ·
  obtain ⟨b1, o1, rfl, hb1, hc1⟩ := reads_spot hr (by omega)
  have hm : (mkS ps).map (·.data.toList) = ps := by simp [mkS, Function.comp_def]
  have hlen : (mkS ps).length = ps.length := by simp [mkS]
  have h := Tryz.strings_Join b1 o1 c (mkS ps) ⟨#[44]⟩ w (fun j x hx => hc1 j _ (by
   rw [mkS, List.getElem?_map] at hx
   rw [strVs, List.getElem?_map]
   cases hp : ps[j]? with
   | none => rw [hp] at hx; cases hx
   | some p => rw [hp] at hx; simp at hx; subst hx; rfl)) (by omega) (by rw [hlen]; omega) (by rw [hlen]; exact hc) (by rw [hm]; have : (⟨#[44]⟩ : ByteArray).data.toList = [44] := rfl; rw [this]; omega)
  rw [hm, hlen] at h
  exact h
theorem jprintL_get : ∀ (ks : List Jv) (i : Nat) (k : Jv), ks[i]? = some k → (jprintL ks)[i]? = some (jprint k)
 | [], i, k, h => by simp at h
 | v :: vs, 0, k, h => by simp at h; subst h; rw [jprintL]; rfl
 | v :: vs, i + 1, k, h => by rw [jprintL]; simp at h ⊢; exact jprintL_get vs i k h
theorem jprintO_get : ∀ (names : List (List UInt8)) (ks : List Jv) (i : Nat) (n : List UInt8) (k : Jv), names[i]? = some n → ks[i]? = some k → (jprintO names ks)[i]? = some (quotedL n ++ 58 :: jprint k)
 | names, [], i, n, k, _, h => by simp at h
 | [], v :: vs, i, n, k, h, _ => by simp at h
 | m :: ms, v :: vs, 0, n, k, h1, h2 => by simp at h1 h2; subst h1 h2; rw [jprintO]; rfl
 | m :: ms, v :: vs, i + 1, n, k, h1, h2 => by rw [jprintO]; simp at h1 h2 ⊢; exact jprintO_get ms vs i n k h1 h2
theorem jprintL_len : ∀ ks : List Jv, (jprintL ks).length = ks.length
 | [] => by rw [jprintL]; rfl
 | v :: vs => by rw [jprintL, List.length_cons, List.length_cons, jprintL_len vs]
theorem jprintO_len : ∀ (names : List (List UInt8)) (ks : List Jv), (jprintO names ks).length = ks.length
 | names, [] => by rw [jprintO]; rfl
 | names, v :: vs => by rw [jprintO, List.length_cons, List.length_cons, jprintO_len names.tail vs]
theorem formatL (b : Bool) : Lib.formatBool b = if b then [116, 114, 117, 101] else [102, 97, 108, 115, 101] := by cases b <;> decide +kernel
end Go.Proofs.YtieppmppdmcleaaGreatDoor
