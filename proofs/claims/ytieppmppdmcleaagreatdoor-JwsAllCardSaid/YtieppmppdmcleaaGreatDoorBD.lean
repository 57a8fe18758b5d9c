/- countersignref6.Digits. Condition: a number of at most 53 bits. -/
import Derived.Test.YtieppmppdmcleaaGreatDoorJs
set_option linter.unusedVariables false
set_option linter.unusedSimpArgs false
set_option maxRecDepth 20000
set_option maxHeartbeats 8000000
namespace Go.Proofs.YtieppmppdmcleaaGreatDoor
open Go.RowKit
theorem dec_step (n : Nat) (h : ¬ n < 10) : Lib.decDigits n = Lib.decDigits (n / 10) ++ [UInt8.ofNat (48 + n % 10)] := by rw [Lib.decDigits, dif_neg h]
theorem dec_le : ∀ n : Nat, n ≤ 9007199254740992 → (Lib.decDigits n).length ≤ 21 := by
 intro n h
 have := Lib.itoa_length_le (n : Int) (by omega) (by omega)
 rw [Lib.itoa, if_neg (by omega)] at this
 simpa using this
theorem one_cell (w : World) (c : Nat) (hc : c < 256) (cp : Nat) : (convert 31 9 (.slice (some ⟨w.heap.size, 0, none⟩) 1 cp)).run Tryz.prog (w.alloc (.cells #[.int .u8 (c : Int)] 5)) = .ok (.string ⟨[UInt8.ofNat c].toArray⟩) (w.alloc (.cells #[.int .u8 (c : Int)] 5)) := by
 have hrd : Reads (w.alloc (.cells #[.int .u8 (c : Int)] 5)) (w.heap.size + 1) 1 (some ⟨w.heap.size, 0, none⟩) 1 (Lib.byteCells [UInt8.ofNat c]) := by
  have e : Lib.byteCells [UInt8.ofNat c] = [.int .u8 (c : Int)] := by simp [Lib.byteCells]; omega
  rw [e]
  exact reads_row w 5 [.int .u8 (c : Int)]
 exact reads_str (P := Tryz.prog) hrd 31 9 5 Tryz.underlying31 Tryz.underlying5 Tryz.underlying9
theorem one_later {w w1 : World} (c : Nat) (hc : c < 256) (cp : Nat) (hb : Below (w.heap.size + 1) (w.alloc (.cells #[.int .u8 (c : Int)] 5)) w1) : (convert 31 9 (.slice (some ⟨w.heap.size, 0, none⟩) 1 cp)).run Tryz.prog w1 = .ok (.string ⟨[UInt8.ofNat c].toArray⟩) w1 := by
 have hrd : Reads (w.alloc (.cells #[.int .u8 (c : Int)] 5)) (w.heap.size + 1) 1 (some ⟨w.heap.size, 0, none⟩) 1 (Lib.byteCells [UInt8.ofNat c]) := by
  have e : Lib.byteCells [UInt8.ofNat c] = [.int .u8 (c : Int)] := by simp [Lib.byteCells]; omega
  rw [e]
  exact reads_row w 5 [.int .u8 (c : Int)]
 exact reads_str (P := Tryz.prog) (hrd.keep (w' := w1) (fun p hp => hb.cell hp)) 31 9 5 Tryz.underlying31 Tryz.underlying5 Tryz.underlying9
theorem decs_walk (n : Nat) : n ≤ 9007199254740992 → ∀ w : World, Calls Tryz.prog 62 #[.int .i64 (n : Int)] w fun e w' => e = .returned (.string ⟨(Lib.decDigits n).toArray⟩) ∧ Below w.heap.size w w' := by
 induction n using Nat.strongRecOn with
 | ind n ih =>
  intro hn w
  by_cases h10 : n < 10
  ·
   obtain ⟨c, hc⟩ : ∃ c, 48 + n = c := ⟨_, rfl⟩
   have hv := Lib.decDigits_one h10
   rw [hc] at hv
   have HV := Lib.hid hv
   have e1 : (48 : Int) + (n : Int) = (c : Int) := by omega
   have e2 : IntKind.u8.wrap (c : Int) = (c : Int) := by rw [wrap_u8]; omega
   have e3 : IntKind.i64.wrap (c : Int) = (c : Int) := by rw [IntKind.wrap_i64]; omega
   have d1 : decide ((n : Int) < 0) = false := by simp
   have d2 : decide ((n : Int) < 10) = true := by simp; omega
   have hst := one_cell w c (by omega)
   clear hv hc ih
   go_enter Tryz.func62, Tryz.ntmps62
   go_wp2_with fail
   go_ret
   exact ⟨by rw [HV.out]; rfl, (Below.refl _ _).alloc (Nat.le_refl _) _⟩
  ·
   obtain ⟨q, hq⟩ : ∃ q, n / 10 = q := ⟨_, rfl⟩
   obtain ⟨r, hr⟩ : ∃ r, n % 10 = r := ⟨_, rfl⟩
   obtain ⟨c, hc⟩ : ∃ c, 48 + r = c := ⟨_, rfl⟩
   have hv := dec_step n h10
   rw [hq, hr, hc] at hv
   have HV := Lib.hid hv
   have cp := Lib.hid (ih q (by omega) (by omega))
   obtain ⟨z, hz, hzl⟩ := mk_name (Lib.decDigits q) (dec_le q (by omega))
   simp only [hz] at cp
   have HCP := cp
   have HZ := Lib.hid hz
   have e0 : (n : Int) / 10 = (q : Int) := by omega
   have e0' : (n : Int) % 10 = (r : Int) := by omega
   have e0'' : (n : Int).tdiv 10 = (q : Int) := by rw [Int.tdiv_eq_ediv_of_nonneg (by omega)]; omega
   have e0''' : (n : Int).tmod 10 = (r : Int) := by rw [Int.tmod_eq_emod_of_nonneg (by omega)]; omega
   have e1 : (48 : Int) + (r : Int) = (c : Int) := by omega
   have e2 : IntKind.u8.wrap (c : Int) = (c : Int) := by rw [wrap_u8]; omega
   have e3 : IntKind.i64.wrap (c : Int) = (c : Int) := by rw [IntKind.wrap_i64]; omega
   have e4 : IntKind.i64.wrap (q : Int) = (q : Int) := by rw [IntKind.wrap_i64]; omega
   have d1 : decide ((n : Int) < 0) = false := by simp
   have d2 : decide ((n : Int) < 10) = false := by simp; omega
   have hc256 : c < 256 := by omega
   clear hv hc ih hq hr hz cp
   go_enter Tryz.func62, Tryz.ntmps62
   go_wp2_with fail
   refine wp_region_held_drew (S := fun W => True) (by kernel_rfl) trivial (fun hHeld => ?_)
   refine tkr 0 rfl ?_
   try simp only [nrm, Act.put]
   refine tkr 1 rfl ?_
   try simp only [nrm, Act.put]
   refine tkr 3 rfl ?_
   try simp only [nrm, Act.put]
   refine tkr 4 rfl ?_
   try simp only [nrm, Act.put]
   refine tkr 5 rfl ?_
   try simp only [nrm, Act.put]
   refine tkr 6 rfl ?_
   try simp only [nrm, Act.put]
   refine wpAnyH_ready (rs := [2, 7]) (by kernel_rfl) (by simp) ?_
   refine AllReadyH.cons rfl (fun K hK => ?_) (AllReadyH.cons rfl (fun K hK => ?_) AllReadyH.nil)
   ·
    go_simp
    go_at_call 62
    with_reducible refine (HCP.out _).mono ?_
    rintro _ w1 ⟨rfl, hb1⟩
    refine hK.out _ _ trivial (fun hHeld => ?_)
    clear hK K
    try simp only [nrm, Act.put]
    refine rd1 7 rfl fun K hK => ?_
    go_simp
    refine hK.out _ _ trivial (fun hHeld => ?_)
    clear hK K
    try simp only [nrm, Act.put]
    refine rd1 8 rfl fun K hK => ?_
    have hst := one_cell w1 c hc256
    go_simp
    refine hK.out _ _ trivial (fun hHeld => ?_)
    clear hK K hst
    try simp only [nrm, Act.put]
    have hsum : ¬ 9223372036854775807 < z.size + 1 := by omega
    refine tkr 9 rfl ?_
    try simp only [nrm, Act.put]
    refine tkr 10 rfl ?_
    try simp only [nrm, Act.put]
    refine wpAnyH_done (by kernel_rfl) ?_ _
    have HB1 := Lib.hid ((below_next (Below.refl w.heap.size w).drew hb1).alloc (below_next (Below.refl w.heap.size w).drew hb1).size (.cells #[.int .u8 (c : Int)] 5))
    clear hb1 hHeld hsum
    go_wp2_with fail
    go_ret
    exact ⟨by rw [HV.out, ← HZ.out]; exact congrArg (fun x => Ending.returned (.string x)) (cat_mk _ [UInt8.ofNat c]), HB1.out⟩
   ·
    go_simp
    refine hK.out _ _ trivial (fun hHeld => ?_)
    clear hK K
    try simp only [nrm, Act.put]
    have hba := (Below.refl w.heap.size w).drew.alloc (Nat.le_refl _) (.cells #[.int .u8 (c : Int)] 5)
    refine wpAnyH_ready (rs := [2, 8]) (by kernel_rfl) (by simp) ?_
    refine AllReadyH.cons rfl (fun K hK => ?_) (AllReadyH.cons rfl (fun K hK => ?_) AllReadyH.nil)
    ·
     go_simp
     go_at_call 62
     with_reducible refine (HCP.out _).mono ?_
     rintro _ w1 ⟨rfl, hb1⟩
     refine hK.out _ _ trivial (fun hHeld => ?_)
     clear hK K
     try simp only [nrm, Act.put]
     refine rd1 8 rfl fun K hK => ?_
     have hst := fun cp => one_later (w := w) c hc256 cp (((Below.refl (w.heap.size + 1) (w.alloc (.cells #[.int .u8 (c : Int)] 5))).drew).trans (hb1.mono (by simp)))
     go_simp
     refine hK.out _ _ trivial (fun hHeld => ?_)
     clear hK K hst
     try simp only [nrm, Act.put]
     have hsum : ¬ 9223372036854775807 < z.size + 1 := by omega
     refine tkr 9 rfl ?_
     try simp only [nrm, Act.put]
     refine tkr 10 rfl ?_
     try simp only [nrm, Act.put]
     refine wpAnyH_done (by kernel_rfl) ?_ _
     have HB1 := Lib.hid (below_next hba hb1)
     clear hb1 hHeld hsum hba
     go_wp2_with fail
     go_ret
     exact ⟨by rw [HV.out, ← HZ.out]; exact congrArg (fun x => Ending.returned (.string x)) (cat_mk _ [UInt8.ofNat c]), HB1.out⟩
    ·
     have hst := fun cp => one_later (w := w) c hc256 cp ((Below.refl (w.heap.size + 1) (w.alloc (.cells #[.int .u8 (c : Int)] 5))).drew)
     go_simp
     refine hK.out _ _ trivial (fun hHeld => ?_)
     clear hK K hst
     try simp only [nrm, Act.put]
     refine rd1 2 rfl fun K hK => ?_
     go_simp
     go_at_call 62
     with_reducible refine (HCP.out _).mono ?_
     rintro _ w1 ⟨rfl, hb1⟩
     refine hK.out _ _ trivial (fun hHeld => ?_)
     clear hK K
     try simp only [nrm, Act.put]
     have hsum : ¬ 9223372036854775807 < z.size + 1 := by omega
     refine tkr 9 rfl ?_
     try simp only [nrm, Act.put]
     refine tkr 10 rfl ?_
     try simp only [nrm, Act.put]
     refine wpAnyH_done (by kernel_rfl) ?_ _
     have HB1 := Lib.hid (below_next hba hb1)
     clear hb1 hHeld hsum hba
     go_wp2_with fail
     go_ret
     exact ⟨by rw [HV.out, ← HZ.out]; exact congrArg (fun x => Ending.returned (.string x)) (cat_mk _ [UInt8.ofNat c]), HB1.out⟩
theorem digits_walk (n : Int) (h : -9007199254740992 ≤ n ∧ n ≤ 9007199254740992) (w : World) : Calls Tryz.prog 62 #[.int .i64 n] w fun e w' => e = .returned (.string ⟨(Lib.itoa n).toArray⟩) ∧ Below w.heap.size w w' := by
 by_cases h0 : n < 0
 ·
  obtain ⟨m, hm⟩ : ∃ m : Nat, 0 - n = (m : Int) := ⟨(0 - n).toNat, by omega⟩
  have hv : Lib.itoa n = 45 :: Lib.decDigits m := by rw [Lib.itoa, if_pos h0, show n.natAbs = m by omega]
  have HV := Lib.hid hv
  obtain ⟨z, hz, hzl⟩ := mk_name (Lib.decDigits m) (dec_le m (by omega))
  have cp := Lib.hid (decs_walk m (by omega) w)
  rw [hz] at cp
  have HZ := Lib.hid hz
  have e1 : IntKind.i64.wrap (m : Int) = (m : Int) := by rw [IntKind.wrap_i64]; omega
  have e2 : -n = (m : Int) := by omega
  have d1 : decide (n < 0) = true := decide_eq_true h0
  clear hv hz h0
  go_enter Tryz.func62, Tryz.ntmps62
  go_wp2_with fail

  refine cp.out.mono ?_
  rintro _ w1 ⟨rfl, hb1⟩
  go_wp2_with fail
  go_ret
  exact ⟨by rw [HV.out, ← HZ.out]; exact congrArg (fun x => Ending.returned (.string x)) (cat_mk [45] _), hb1⟩
 ·
  obtain ⟨m, rfl⟩ : ∃ m : Nat, n = (m : Int) := ⟨n.toNat, by omega⟩
  have hv : Lib.itoa (m : Int) = Lib.decDigits m := by rw [Lib.itoa, if_neg h0]; rfl
  rw [hv]
  exact decs_walk m (by omega) w
end Go.Proofs.YtieppmppdmcleaaGreatDoor
/- countersignref12.quoted: a text as it is written. Condition: a small text. -/
namespace Go.Proofs.YtieppmppdmcleaaGreatDoor
open Go.RowKit
theorem info_u8 : (Tryz.prog.info? 5).map (fun i => (i.zero, i.size, i.bytes)) = some (some (.int .u8 0), 1, 1) := by kernel_rfl
theorem own_next {w : World} {B : Nat} {T : TypeId} {v : Value} {o news o' : List UInt8} {m : Nat} {cs : List Value} (h : w.ownsRow B T 1 v (o.length + m) (Lib.byteCells o ++ cs)) (hc : cs = Lib.byteCells news) (hm : news.length = m) (e : o' = o ++ news) :
  w.ownsRow B T 1 v o'.length (Lib.byteCells o') := by
 subst e; subst hm; subst hc
 rw [List.length_append, Lib.byteCells_append]
 exact h
theorem run_index_at {P : Program} (T : TypeId) (hT : P.underlying T = some .string) (t : ByteArray) (k a : Nat) (hk : k < t.size) (ha : (t[k]'hk).toNat = a) (W : World) : (Instr.index T (.string t) (.int .i64 (k : Int))).run P W = .ok (.int .u8 (a : Int)) W := by
 subst ha
 simp [Instr.index, run_underlying hT, hk, go_sem]
theorem run_index_u8 {P : Program} (T : TypeId) (hT : P.underlying T = some .string) (t : ByteArray) (k a : Nat) (hk : k < t.size) (ha : (t[k]'hk).toNat = a) (W : World) : (Instr.index T (.string t) (.int .u8 (k : Int))).run P W = .ok (.int .u8 (a : Int)) W := by
 subst ha
 simp [Instr.index, run_underlying hT, hk, go_sem]
theorem hex_at : ∀ q : Fin 16, ((⟨#[48, 49, 50, 51, 52, 53, 54, 55, 56, 57, 97, 98, 99, 100, 101, 102]⟩ : ByteArray)[q.val]'(by show q.val < 16; exact q.isLt)).toNat = (hexD q.val).toNat := by decide +kernel
theorem hex_at2 : ∀ q : Fin 2, ((⟨#[48, 49]⟩ : ByteArray)[q.val]'(by show q.val < 2; exact q.isLt)).toNat = (hexD q.val).toNat := by decide +kernel
theorem rquoted_walk (s : ByteArray) (l : List UInt8) (hs : s.data.toList = l) (w : World) (hm : s.size ≤ 1000000) :
  Calls Tryz.prog 63 #[.string s] w fun e w' => e = .returned (.string ⟨(quotedL l).toArray⟩) ∧ Below w.heap.size w w' := by
 have hsz : l.length = s.size := by rw [← hs, Lib.size_eq]
 obtain ⟨i0, hi, hz0, hz1, hz2⟩ := infoS4 info_u8
 have HOWN : Hid ((w.alloc (.cells #[.int .u8 34] 5)).ownsRow w.heap.size 5 1 (.slice (some ⟨w.heap.size, 0, none⟩) 1 1) (34 :: escL (l.take 0)).length (Lib.byteCells (34 :: escL (l.take 0)))) := World.ownsRow_lit (base := w.heap.size) w #[.int .u8 34] 1 (Nat.le_refl _) (by unfold maxLen; omega) rfl
 have HB := Lib.hid ((Below.refl w.heap.size w).alloc (Nat.le_refl _) (.cells #[.int .u8 34] 5))
 go_enter Tryz.func63, Tryz.ntmps63
 go_wp2_with fail
 go_loopw [3, 4] (fun ov nv wr => ∃ k : Nat, k ≤ s.size ∧ nv = .int .i64 k ∧ Hid (wr.ownsRow w.heap.size 5 1 ov (34 :: escL (l.take k)).length (Lib.byteCells (34 :: escL (l.take k)))) ∧ Hid (Below w.heap.size w wr)) (fun _ nv _ => s.size - (intOf nv).toNat)
 case atStart => exact ⟨0, by omega, rfl, HOWN, HB⟩
 case round =>
  clear HOWN HB
  obtain ⟨k, hk, rfl, hown0, hbl⟩ := hrel
  obtain ⟨o, ho⟩ : ∃ o, 34 :: escL (l.take k) = o := ⟨_, rfl⟩
  have hol : o.length ≤ 6000001 := by
   rw [← ho]
   have := escL_le (l.take k)
   rw [List.length_take] at this
   rw [List.length_cons]
   omega
  have hown := hown0.out
  rw [ho] at hown
  have hown1 := Lib.hid hown
  have hls := hbl.out.size
  clear hown0
  by_cases hlt : k < s.size
  ·
   obtain ⟨b, eb, hb, hb2⟩ : ∃ b : Nat, (s[k]'hlt).toNat = b ∧ Hid ((l.getD k 0).toNat = b) ∧ b < 256 := ⟨_, str_at hs hlt, rfl, (l.getD k 0).toNat_lt⟩
   have hst := escL_take (l := l) (k := k) (by omega)
   have HST : Hid (34 :: escL (l.take (k + 1)) = o ++ escB (l.getD k 0)) := by show _ = _; rw [hst, ← ho]; rfl
   have HO := Lib.hid ho
   have hub : Hid (l.getD k 0 = UInt8.ofNat b) := by show _ = _; rw [← hb.out]; simp
   clear hst ho hown
   by_cases h32 : b < 32
   ·
    have hnew : Hid (escB (l.getD k 0) = [92, 117, 48, 48, hexD (b / 16), hexD (b % 16)]) := by
     show _ = _
     rw [escB, if_neg (by rw [hub.out]; simp [← UInt8.toNat_inj]; omega), if_pos (by rw [UInt8.lt_iff_toNat_lt, hb.out]; exact h32), hb.out]
    have d1 : ((b : Int) == 34) = false := by simp; omega
    have d2 : ((b : Int) == 92) = false := by simp; omega
    have d3 : decide ((b : Int) < 32) = true := by simp; omega
    obtain ⟨p, hp⟩ : ∃ p, b / 16 = p := ⟨_, rfl⟩
    obtain ⟨q, hq⟩ : ∃ q, b % 16 = q := ⟨_, rfl⟩
    have hp2 : p < 2 := by omega
    have hq16 : q < 16 := by omega
    rw [hp, hq] at hnew
    obtain ⟨x1, hx1⟩ : ∃ x1, (hexD p).toNat = x1 := ⟨_, rfl⟩
    obtain ⟨x2, hx2⟩ : ∃ x2, (hexD q).toNat = x2 := ⟨_, rfl⟩
    have e1 : (b : Int) / 16 = (p : Int) := by omega
    have e1' : (b : Int).tdiv 16 = (p : Int) := by rw [Int.tdiv_eq_ediv_of_nonneg (by omega)]; omega
    have e2 : (b : Int) % 16 = (q : Int) := by omega
    have e2' : (b : Int).tmod 16 = (q : Int) := by rw [Int.tmod_eq_emod_of_nonneg (by omega)]; omega
    have i1 := fun W => run_index_at (P := Tryz.prog) 9 Tryz.underlying9 s k b hlt eb W
    have i2 := fun W => run_index_u8 (P := Tryz.prog) 9 Tryz.underlying9 ⟨#[48, 49]⟩ p x1 hp2 ((hex_at2 ⟨p, hp2⟩).trans hx1) W
    have i3 := fun W => run_index_u8 (P := Tryz.prog) 9 Tryz.underlying9 ⟨#[48, 49, 50, 51, 52, 53, 54, 55, 56, 57, 97, 98, 99, 100, 101, 102]⟩ q x2 hq16 ((hex_at ⟨q, hq16⟩).trans hx2) W
    have ew1 : IntKind.u8.wrap (p : Int) = (p : Int) := by rw [wrap_u8]; omega
    have ew2 : IntKind.u8.wrap (q : Int) = (q : Int) := by rw [wrap_u8]; omega
    have HX := Lib.hid (And.intro hx1 hx2)
    clear hp hq hx1 hx2
    go_wp2_with fail
    refine wp_region_held_drew (S := fun W => True) (by kernel_rfl) trivial (fun hHeld => ?_)
    refine tkr 0 rfl ?_
    try simp only [nrm, Act.put]
    refine tkr 1 rfl ?_
    try simp only [nrm, Act.put]
    refine tkr 2 rfl ?_
    try simp only [nrm, Act.put]
    refine tkr 3 rfl ?_
    try simp only [nrm, Act.put]
    refine tkr 4 rfl ?_
    try simp only [nrm, Act.put]
    refine tkr 5 rfl ?_
    try simp only [nrm, Act.put]
    refine tkr 6 rfl ?_
    try simp only [nrm, Act.put]
    refine tkr 7 rfl ?_
    try simp only [nrm, Act.put]
    refine tkr 8 rfl ?_
    try simp only [nrm, Act.put]
    refine tkr 9 rfl ?_
    try simp only [nrm, Act.put]
    refine tkr 10 rfl ?_
    try simp only [nrm, Act.put]
    refine rd1 11 rfl fun K hK => ?_
    go_simp
    refine hK.out _ _ trivial (fun hHeld => ?_)
    clear hK K
    try simp only [nrm, Act.put]
    refine rd1 12 rfl fun K hK => ?_
    have hrd := reads_row wr 5 [.int .u8 92, .int .u8 117, .int .u8 48, .int .u8 48, .int .u8 (x1 : Int), .int .u8 (x2 : Int)]
    have hcs : Hid (([.int .u8 92, .int .u8 117, .int .u8 48, .int .u8 48, .int .u8 (x1 : Int), .int .u8 (x2 : Int)] : List Value) = Lib.byteCells [92, 117, 48, 48, hexD p, hexD q]) := by
     show _ = _
     simp [Lib.byteCells, HX.out.1, HX.out.2]
    have hrdd : Reads ((wr.alloc (.cells #[.int .u8 92, .int .u8 117, .int .u8 48, .int .u8 48, .int .u8 (x1 : Int), .int .u8 (x2 : Int)] 5)).drew) (wr.heap.size + 1) 1 (some ⟨wr.heap.size, 0, none⟩) 6 [.int .u8 92, .int .u8 117, .int .u8 48, .int .u8 48, .int .u8 (x1 : Int), .int .u8 (x2 : Int)] := hrd
    have hod : ((wr.alloc (.cells #[.int .u8 92, .int .u8 117, .int .u8 48, .int .u8 48, .int .u8 (x1 : Int), .int .u8 (x2 : Int)] 5)).drew).ownsRow w.heap.size 5 1 u3 o.length (Lib.byteCells o) := hown1.out.alloc _
    refine step_append_any _ rfl (.tmp 40) (.tmp 51) 31 rfl w.heap.size 5 i0 (.int .u8 0) 1 1 Tryz.underlying31 hi hz0 hz1 hz2 rfl (by decide) u3 o.length (Lib.byteCells o) rfl hod (wr.heap.size + 1) _ 6 6 _ rfl hrdd (by simp [Value.oneCell']) (by unfold maxLen; omega) (by omega) (by simp; omega) ?_
    intro v' w2 hown2 hg2 _
    refine hK.out _ _ trivial (fun hHeld => ?_)
    clear hK K
    try simp only [nrm, Act.put]
    refine tkr 13 rfl ?_
    try simp only [nrm, Act.put]
    refine wpAnyH_done (by kernel_rfl) ?_ _
    have HB2 := Lib.hid (((hbl.out.alloc hls (.cells #[.int .u8 92, .int .u8 117, .int .u8 48, .int .u8 48, .int .u8 (x1 : Int), .int .u8 (x2 : Int)] 5)).drew).grown hg2 (by simp; omega) (fun g hg => (hod.lt g hg).1))
    have HO2 := Lib.hid (own_next (news := [92, 117, 48, 48, hexD p, hexD q]) hown2 hcs.out rfl (HST.out.trans (congrArg (o ++ ·) hnew.out)))
    clear hown2 hg2 hod hrd hrdd hHeld e1 e1' e2 e2' i1 i2 i3 ew1 ew2
    go_wp2_with fail
    exact ⟨⟨k + 1, by omega, by go_num, HO2, HB2⟩, by simp [intOf]; omega⟩
   ·
    have d3 : decide ((b : Int) < 32) = false := by simp; omega
    by_cases hq : b = 34 ∨ b = 92
    ·
     have hnew : Hid (escB (l.getD k 0) = [92, UInt8.ofNat b]) := by
      show _ = _
      rw [escB, hub.out, if_pos]
      rcases hq with rfl | rfl
      ·
       left; rfl
      ·
       right; rfl
     have hdd : ((b : Int) == 34) = true ∨ ((b : Int) == 34) = false ∧ ((b : Int) == 92) = true := by
      rcases hq with h | h
      ·
       left; simp; omega
      ·
       right; constructor <;> (simp; omega)
     have hrd := reads_row wr 5 [.int .u8 92, .int .u8 (b : Int)]
     have hcs : Hid (([.int .u8 92, .int .u8 (b : Int)] : List Value) = Lib.byteCells [92, UInt8.ofNat b]) := by
      show _ = _
      simp [Lib.byteCells]; omega
     clear hq
     rcases hdd with d1 | ⟨d1, d2⟩
     all_goals
      go_wp2_with (at_builtin; refine wpList_append_any (wr.alloc (.cells #[.int .u8 92, .int .u8 (b : Int)] 5)) rfl (.tmp 29) (.tmp 33) 31 rfl w.heap.size 5 i0 (.int .u8 0) 1 1 Tryz.underlying31 hi hz0 hz1 hz2 rfl (by decide) u3 o.length (Lib.byteCells o) rfl (hown1.out.alloc _) (wr.heap.size + 1) _ 2 2 _ rfl hrd (by simp [Value.oneCell']) (by unfold maxLen; omega) (by omega) (by simp; omega) ?_; intro v' w2 hown2 hg2 _)
      have HB2 := Lib.hid ((hbl.out.alloc hls (.cells #[.int .u8 92, .int .u8 (b : Int)] 5)).grown hg2 (by simp; omega) (fun g hg => (hown1.out.lt g hg).1))
      have HO2 := Lib.hid (own_next (news := [92, UInt8.ofNat b]) hown2 hcs.out rfl (HST.out.trans (congrArg (o ++ ·) hnew.out)))
      clear hown2 hg2
      exact ⟨⟨k + 1, by omega, by go_num, HO2, HB2⟩, by simp [intOf]; omega⟩
    ·
     have hnew : Hid (escB (l.getD k 0) = [UInt8.ofNat b]) := by
      show _ = _
      rw [escB, hub.out, if_neg (by simp [← UInt8.toNat_inj]; omega), if_neg (by rw [UInt8.lt_iff_toNat_lt]; simp; omega)]
     have d1 : ((b : Int) == 34) = false := by simp; omega
     have d2 : ((b : Int) == 92) = false := by simp; omega
     have hrd := reads_row wr 5 [.int .u8 (b : Int)]
     have hcs : Hid (([.int .u8 (b : Int)] : List Value) = Lib.byteCells [UInt8.ofNat b]) := by
      show _ = _
      simp [Lib.byteCells]; omega
     go_wp2_with (at_builtin; refine wpList_append_any (wr.alloc (.cells #[.int .u8 (b : Int)] 5)) rfl (.tmp 12) (.tmp 16) 31 rfl w.heap.size 5 i0 (.int .u8 0) 1 1 Tryz.underlying31 hi hz0 hz1 hz2 rfl (by decide) u3 o.length (Lib.byteCells o) rfl (hown1.out.alloc _) (wr.heap.size + 1) _ 1 1 _ rfl hrd (by simp [Value.oneCell']) (by unfold maxLen; omega) (by omega) (by simp; omega) ?_; intro v' w2 hown2 hg2 _)
     have HB2 := Lib.hid ((hbl.out.alloc hls (.cells #[.int .u8 (b : Int)] 5)).grown hg2 (by simp; omega) (fun g hg => (hown1.out.lt g hg).1))
     have HO2 := Lib.hid (own_next (news := [UInt8.ofNat b]) hown2 hcs.out rfl (HST.out.trans (congrArg (o ++ ·) hnew.out)))
     clear hown2 hg2
     exact ⟨⟨k + 1, by omega, by go_num, HO2, HB2⟩, by simp [intOf]; omega⟩
  ·
   obtain rfl : k = s.size := by omega
   have htk : l.take s.size = l := by rw [← hsz, List.take_length]
   rw [htk] at ho
   have HO := Lib.hid ho
   have hrd := reads_row wr 5 [.int .u8 34]
   obtain ⟨oo, hoo⟩ : ∃ oo, oo = o ++ [34] := ⟨_, rfl⟩
   have hv : Hid (quotedL l = oo) := by show _ = _; rw [hoo, ← ho]; rfl
   have HOO := Lib.hid hoo
   clear hoo
   clear ho hown
   go_wp2_with (at_builtin; refine wpList_append_any (wr.alloc (.cells #[.int .u8 34] 5)) rfl (.tmp 53) (.tmp 54) 31 rfl w.heap.size 5 i0 (.int .u8 0) 1 1 Tryz.underlying31 hi hz0 hz1 hz2 rfl (by decide) u3 o.length (Lib.byteCells o) rfl (hown1.out.alloc _) (wr.heap.size + 1) _ 1 1 _ rfl hrd (by simp [Value.oneCell']) (by unfold maxLen; omega) (by omega) (by simp; omega) ?_; intro v' w2 hown2 hg2 _; have ho2 := own_next (news := [34]) hown2 rfl rfl HOO.out; obtain ⟨A', c', rfl, hnc, hrd2⟩ := own_reads ho2 (Nat.le_refl _); have hst := reads_str (P := Tryz.prog) (c := c') hrd2 31 9 5 Tryz.underlying31 Tryz.underlying5 Tryz.underlying9; clear hown2 ho2 hrd2)
   have HB2 := Lib.hid ((hbl.out.alloc hls (.cells #[.int .u8 34] 5)).grown hg2 (by simp; omega) (fun g hg => (hown1.out.lt g hg).1))
   clear hg2
   go_ret
   exact ⟨by rw [hv.out]; rfl, HB2.out⟩
end Go.Proofs.YtieppmppdmcleaaGreatDoor
