/- l9.Texts of one piece. No condition of its own. -/
import Derived.Test.YtekpdkjkkglcjaaNd
import Derived.Lib.ConvBytes
import Derived.Laws.Concat
import Derived.Deep.CutBlock
import Derived.Deep.DeepCutAuto
set_option linter.unusedVariables false
set_option linter.unusedSimpArgs false
set_option maxRecDepth 20000
namespace Go.Proofs.Ytekpdkjkkglcjaa
open Go.RowKit
/-- a row of bytes that a conversion made: nothing but the place behind its end is marked -/
def BRow (e : TypeId) (w : World) (g : Nat) (l : List UInt8) : Prop := ∃ cs fz, w.heap[g]? = some (.cells cs e fz) ∧ l.length ≤ fz.1 ∧ l.length ≤ cs.size ∧ ∀ j, j < l.length → cs[j]? = some (.int .u8 ((l.getD j 0).toNat : Int))
theorem BRow.lt {e : TypeId} {w : World} {g : Nat} {l : List UInt8} (h : BRow e w g l) : g < w.heap.size := by
  obtain ⟨cs, fz, hh, _⟩ := h
  exact (Array.getElem?_eq_some_iff.1 hh).1
theorem BRow.cell {e : TypeId} {w : World} {g : Nat} {l : List UInt8} (h : BRow e w g l) {j : Nat} (hj : j < l.length) : w.cell? ⟨g, j, none⟩ = some (.int .u8 ((l.getD j 0).toNat : Int)) := by
  obtain ⟨cs, fz, hh, _, _, hc⟩ := h
  simp [World.cell?, hh, hc j hj]
theorem BRow.frozen {e : TypeId} {w : World} {g : Nat} {l : List UInt8} (h : BRow e w g l) {j : Nat} (hj : j < l.length) : w.frozen? ⟨g, j, none⟩ = false := by
  obtain ⟨cs, fz, hh, hf, _, _⟩ := h
  simp [World.frozen?, hh]
  omega
theorem BRow.set_ {e : TypeId} {w : World} {g : Nat} {l : List UInt8} (h : BRow e w g l) {j : Nat} (hj : j < l.length) (x : Nat) (hx : x < 256) : BRow e (w.setCell ⟨g, j, none⟩ (.int .u8 (x : Int))) g (l.set j (UInt8.ofNat x)) := by
  obtain ⟨cs, fz, hh, hf, hs, hc⟩ := h
  refine ⟨cs.setIfInBounds j (.int .u8 (x : Int)), fz, by simp [World.setCell, Array.getElem?_modify, hh], by simpa using hf, by simpa using hs, fun i hi => ?_⟩
  simp only [List.length_set] at hi
  by_cases hij : i = j
  · subst hij
    rw [Array.getElem?_setIfInBounds_self_of_lt (by omega)]
    simp [hi]
    omega
  · rw [Array.getElem?_setIfInBounds_ne (fun e => hij e.symm), hc i hi]
    simp [List.getElem?_set, Ne.symm hij]
theorem BRow.reads {e : TypeId} {w : World} {g : Nat} {l : List UInt8} (h : BRow e w g l) : Reads w w.heap.size 1 (some ⟨g, 0, none⟩) l.length (Lib.byteCells l) := by
  refine ⟨by rw [Lib.byteCells_length]; omega, fun _ => ⟨_, rfl, h.lt, fun j u hu => ?_⟩⟩
  have hj : j < l.length := by
    have := (List.getElem?_eq_some_iff.1 hu).1
    rwa [Lib.byteCells_length] at this
  rw [show ((⟨g, 0, none⟩ : Addr).add j) = ⟨g, j, none⟩ by unfold Addr.add; split <;> simp_all, h.cell hj, ← hu]
  simp [Lib.byteCells, List.getD, List.getElem?_eq_getElem hj]
theorem BRow.new (e : TypeId) (w : World) (l : List UInt8) : BRow e (Lib.bytesWorld w e ⟨l.toArray⟩) w.heap.size l := by
  refine ⟨_, _, Lib.bytesWorld_at_new w e ⟨l.toArray⟩, ?_, ?_, fun j hj => ?_⟩
  · simp [Lib.bytesCells]
  · simp [Lib.bytesCells]
  · have := Lib.bytesWorld_cell w e ⟨l.toArray⟩ j (show j < l.toArray.size by simpa using hj)
    simpa [World.cell?, Lib.bytesWorld_at_new] using this
theorem below_bytes (e : TypeId) (w : World) (l : List UInt8) : Below w.heap.size w (Lib.bytesWorld w e ⟨l.toArray⟩) :=
  ⟨by simp [Lib.bytesWorld, World.freeze]; rfl, by simp [Lib.bytesWorld, World.freeze]; try rfl, by simp [Lib.bytesWorld, World.freeze]; rfl, by rw [Lib.bytesWorld_size]; omega, fun k hk => Lib.bytesWorld_at_old w e _ k hk⟩
theorem BRow.below {e : TypeId} {B : Nat} {w w' : World} {g : Nat} {l : List UInt8} (h : BRow e w g l) (hb : Below B w w') (hg : g < B) : BRow e w' g l := by
  obtain ⟨cs, fz, hh, r⟩ := h
  exact ⟨cs, fz, (hb.block g hg).trans hh, r⟩
def texts7 : List ByteArray := [⟨#[46]⟩, ⟨#[97]⟩, ⟨#[61]⟩, ⟨#[38]⟩, ⟨#[32]⟩, ⟨#[65]⟩, ⟨#[34]⟩]
theorem texts7_len {i : Nat} : (texts7.getD i ByteArray.empty).size ≤ 1 := by
  rcases Nat.lt_or_ge i 7 with h | h
  · revert h; revert i; decide
  · rw [List.getD_eq_getElem?_getD, List.getElem?_eq_none (by exact h)]; decide
theorem reads_texts7 (w : World) (e : TypeId) : Reads (w.alloc (.cells #[.string ⟨#[46]⟩, .string ⟨#[97]⟩, .string ⟨#[61]⟩, .string ⟨#[38]⟩, .string ⟨#[32]⟩, .string ⟨#[65]⟩, .string ⟨#[34]⟩] e)) (w.heap.size + 1) 1 (some ⟨w.heap.size, 0, none⟩) texts7.length (texts7.map Value.string) :=
  reads_row w e [.string ⟨#[46]⟩, .string ⟨#[97]⟩, .string ⟨#[61]⟩, .string ⟨#[38]⟩, .string ⟨#[32]⟩, .string ⟨#[65]⟩, .string ⟨#[34]⟩]
theorem tape_mayB (zs : List Int) (k : Nat) : mayB (tapeT 2 zs k).1 = true := by
  obtain ⟨c, h, _⟩ := tape_may 2 zs k 1 0 (by decide) (by decide)
  rw [mayB, h]
theorem cat0 (b : ByteArray) : ((⟨#[]⟩ : ByteArray) ++ b).size = b.size := by rw [ByteArray.size_append]; show 0 + b.size = b.size; omega
theorem sum0 (b : ByteArray) (h : b.size ≤ 1000000) : (⟨#[]⟩ : ByteArray).size + b.size ≤ 9223372036854775807 := by show 0 + b.size ≤ _; omega
/-- where Texts stands -/
def TxSt (zs : List Int) (w : World) (g : Nat) (sv iv : Value) (wr : World) : Prop :=
  (iv = .int .i64 0 ∧ sv = .string ⟨#[]⟩ ∧ TapeAt wr g zs 0 ∧ Below w.heap.size w wr ∧ w.heap.size ≤ g) ∨ (iv = .int .i64 1 ∧ ∃ s, sv = .string s ∧ s.size ≤ 300000 ∧ Below w.heap.size w wr)
set_option maxRecDepth 100000 in
set_option maxHeartbeats 8000000 in
theorem texts_walk (zs : List Int) (A : Option Addr) (c : Nat) (w : World) (h : IntsIn w A c zs) :
    Calls Try.prog 9 #[.slice A zs.length c, .int .i64 1] w fun e w' => (∃ s : ByteArray, e = .returned (.string s) ∧ s.size ≤ 300000) ∧ Below w.heap.size w w' := by
  have hb1 := (Below.refl w.heap.size w).alloc (Nat.le_refl _) (.cells #[.slice A zs.length c, .int .i64 0] 26)
  have hk := Blk.new w 26 #[.slice A zs.length c, .int .i64 0]
  obtain ⟨h1, h2, h3, h4⟩ := h
  have ht : TapeAt (w.alloc (.cells #[.slice A zs.length c, .int .i64 0] 26)) w.heap.size zs 0 :=
    ⟨Nat.zero_le _, h2, h3, A, c, h1, hk, h4.below hb1⟩
  have H0 : Hid (TxSt zs w w.heap.size (.string ⟨#[]⟩) (.int .i64 0) (w.alloc (.cells #[.slice A zs.length c, .int .i64 0] 26))) := .inl ⟨rfl, rfl, ht, hb1, Nat.le_refl _⟩
  clear hb1 hk h1 h2 h3 h4 ht
  go_enter Try.func9, Try.ntmps9
  go_wp2_with fail
  go_loopw [6, 7] (fun sv iv wr => TxSt zs w w.heap.size sv iv wr) (fun _ iv _ => 1 - (intOf iv).toNat)
  case atStart => exact H0.out
  case round =>
    clear H0
    rcases hrel with ⟨rfl, rfl, ht, hb, hg⟩ | ⟨rfl, s, rfl, hs, hb⟩
    · have cm := Lib.hid (more_walk zs w.heap.size 0 wr ht)
      have HT := Lib.hid ht
      have HB := Lib.hid hb
      clear ht hb
      go_wp2_with fail
      refine cm.out.mono ?_
      rintro _ w1 ⟨rfl, n1, rfl⟩
      by_cases hz : 0 < zs.length
      · have hzd : decide (0 < zs.length) = true := by simpa using hz
        have ct := Lib.hid (tape_all 2 (by decide) zs w.heap.size 0 (wr.drewN n1) (HT.out.drewN n1))
        have hmay := Lib.hid (tape_mayB zs 0)
        clear hz cm
        go_wp2_with fail
        refine ct.out.mono ?_
        rintro _ w2 ⟨kd, nm, s, A2, m2, c2, rfl, htv, ht2, hg2⟩
        generalize tapeT 2 zs 0 = r at htv ht2 hmay ct
        obtain ⟨t, k⟩ := r
        have hmt : mayB t = true := hmay.out
        have cx := Lib.hid (rtext_walk t kd nm s A2 m2 c2 w2 (htv.low (Nat.zero_le _)))
        have hml := mark_le t
        have hmf : 2 ≤ (markT t).length := by rw [mark_form hmt]; simp
        have HB2 := Lib.hid ((show Below w.heap.size w (wr.drewN n1) from below_drewN HB.out n1).grown hg2 HB.out.size (fun q e => by injection e with e; omega))
        have HT2 : Hid (TapeAt w2 w.heap.size zs k) := ht2
        clear htv ht2 hg2 ct hmay hmt
        generalize markT t = X at cx hml hmf
        go_wp2_with fail
        refine cx.out.mono ?_
        rintro _ w3 ⟨rfl, hb3⟩
        have hlt := HT2.out.lt
        have HB3 := Lib.hid (below_next HB2.out hb3)
        have HT3 := Lib.hid (HT2.out.below (hb3.mono (by omega)))
        have cn := Lib.hid (next_walk zs w.heap.size k 8 w3 HT3.out (by decide))
        have hp := nextR_pos zs k 8 (by omega)
        obtain ⟨S, hS⟩ : ∃ S : ByteArray, S = ⟨X.toArray⟩ := ⟨_, rfl⟩
        rw [← hS]
        have hX : S.size ≤ 131460 ∧ 2 ≤ S.size := by rw [hS, size_mk]; exact ⟨hml, hmf⟩
        obtain ⟨hX1, hX2⟩ := hX
        clear cx hb3 hS hml hmf
        generalize nextR zs k 8 = r8 at cn hp
        generalize nextA zs k 8 = k8 at cn
        go_wp2_with fail
        refine cn.out.mono ?_
        rintro _ w4 ⟨rfl, ht4, hg4, hs4⟩
        have HT4 := Lib.hid ht4
        have HB4 := Lib.hid (HB3.out.grown hg4 HB3.out.size (fun q e => by injection e with e; omega))
        clear cn ht4 hg4 hs4
        rcases show r8 = 0 ∨ r8 = 1 ∨ r8 = 2 ∨ r8 = 3 ∨ (4 ≤ r8) by omega with rfl | rfl | rfl | rfl | h4
        · have hadd := fun w => run_string_add_sum (P := Try.prog) w ⟨#[]⟩ ⟨#[126]⟩ (by decide)
          clear hp
          go_wp2_with fail
          exact ⟨.inr ⟨by go_num, _, rfl, by decide, HB4.out⟩, by simp [intOf]⟩
        · have hlt4 := HT4.out.lt
          have ht5 := HT4.out.grown (only_alloc (only_refl w4 none) (.cells #[.string ⟨#[46]⟩, .string ⟨#[97]⟩, .string ⟨#[61]⟩, .string ⟨#[38]⟩, .string ⟨#[32]⟩, .string ⟨#[65]⟩, .string ⟨#[34]⟩] 9)) (fun q e => by cases e)
          have cp := pick_walk zs w.heap.size k8 (some ⟨w4.heap.size, 0, none⟩) 7 (w4.heap.size + 1) texts7 (by decide) (by decide) (by decide) _ ht5 (reads_texts7 w4 9) (by simp) (fun p e => by injection e with e; rw [← e]; show w4.heap.size ≠ _; omega)
          rw [show texts7.length = 7 from rfl] at cp
          have CP := Lib.hid cp
          have HB5 := Lib.hid (HB4.out.alloc HB4.out.size (.cells #[.string ⟨#[46]⟩, .string ⟨#[97]⟩, .string ⟨#[61]⟩, .string ⟨#[38]⟩, .string ⟨#[32]⟩, .string ⟨#[65]⟩, .string ⟨#[34]⟩] 9))
          have hpl := @texts7_len (nextR zs k8 ((7 : Nat) : Int)).toNat
          clear hp ht5 cp
          obtain ⟨p, hpe⟩ : ∃ p, texts7.getD (nextR zs k8 ((7 : Nat) : Int)).toNat ByteArray.empty = p := ⟨_, rfl⟩
          rw [hpe] at CP hpl
          clear hpe
          have hadd := fun w => run_string_add_sum (P := Try.prog) w ⟨#[]⟩ p (sum0 p (by omega))
          go_wp2_with fail
          with_reducible refine CP.out.mono ?_
          rintro _ w5 ⟨rfl, _, hg5, _⟩
          have HB6 := Lib.hid (HB5.out.grown hg5 HB5.out.size (fun q e => by injection e with e; omega))
          clear hg5 CP
          go_wp2_with fail
          exact ⟨.inr ⟨by go_num, _, rfl, by rw [cat0]; omega, HB6.out⟩, by simp [intOf]⟩
        · have hadd := fun w => run_string_add_sum (P := Try.prog) w ⟨#[]⟩ (S.extract 1 S.size) (sum0 _ (by rw [ByteArray.size_extract]; omega))
          clear hp
          go_wp2_with fail
          exact ⟨.inr ⟨by go_num, _, rfl, by rw [cat0, ByteArray.size_extract]; omega, HB4.out⟩, by simp [intOf]⟩
        · have hadd := fun w => run_string_add_sum (P := Try.prog) w ⟨#[123, 34, 110, 111, 110, 99, 101, 34, 58, 34]⟩ S (by show 10 + S.size ≤ _; omega)
          obtain ⟨T1, hT1⟩ : ∃ T1, (⟨#[123, 34, 110, 111, 110, 99, 101, 34, 58, 34]⟩ : ByteArray) ++ S = T1 := ⟨_, rfl⟩
          have hT1s : T1.size ≤ 131470 := by rw [← hT1, ByteArray.size_append]; show 10 + S.size ≤ _; omega
          rw [hT1] at hadd
          have hadd2 := fun w => run_string_add_sum (P := Try.prog) w T1 ⟨#[34, 125]⟩ (by show T1.size + 2 ≤ _; omega)
          obtain ⟨T2, hT2⟩ : ∃ T2, T1 ++ (⟨#[34, 125]⟩ : ByteArray) = T2 := ⟨_, rfl⟩
          have hT2s : T2.size ≤ 131472 := by rw [← hT2, ByteArray.size_append]; show T1.size + 2 ≤ _; omega
          rw [hT2] at hadd2
          obtain ⟨l, hl⟩ : ∃ l : List UInt8, T2 = ⟨l.toArray⟩ := ⟨T2.data.toList, by simp⟩
          have hll : l.length ≤ 131472 := by rw [hl, size_mk] at hT2s; exact hT2s
          clear hT1 hT2 hT1s hT2s
          subst hl
          have hcv := fun w => Lib.run_convert_string_bytes (P := Try.prog) w 9 49 5 ⟨l.toArray⟩ Try.underlying9 Try.underlying49 Try.underlying5
          have hel := B64.enc_le l
          have hadd3 := fun w => run_string_add_sum (P := Try.prog) w ⟨#[]⟩ ⟨(B64.enc l).toArray⟩ (sum0 _ (by rw [size_mk]; omega))
          clear hp
          go_wp2_with fail
          have hbr := BRow.new 5 w4 l
          have hbb := below_bytes 5 w4 l
          have ce := Lib.hid (renc_walk _ l.length (grownCap w4 l.length 0 5) l _ hbr.reads (by omega))
          have HB5 := Lib.hid (below_next HB4.out hbb)
          clear hbr hbb
          refine ce.out.mono ?_
          rintro _ w5 ⟨rfl, hb5⟩
          have HB6 := Lib.hid (below_next HB5.out hb5)
          clear hb5 ce
          go_wp2_with fail
          exact ⟨.inr ⟨by go_num, _, rfl, by rw [cat0, size_mk]; omega, HB6.out⟩, by simp [intOf]⟩
        · have y0 : (r8 == 0) = false := by rw [beq_eq_false_iff_ne]; omega
          have y1 : (r8 == 1) = false := by rw [beq_eq_false_iff_ne]; omega
          have y2 : (r8 == 2) = false := by rw [beq_eq_false_iff_ne]; omega
          have y3 : (r8 == 3) = false := by rw [beq_eq_false_iff_ne]; omega
          have hadd := fun w => run_string_add_sum (P := Try.prog) w ⟨#[]⟩ S (sum0 S (by omega))
          clear hp
          go_wp2_with fail
          exact ⟨.inr ⟨by go_num, _, rfl, by rw [cat0]; omega, HB4.out⟩, by simp [intOf]⟩
      · have hzd : decide (0 < zs.length) = false := by simpa using hz
        clear cm
        go_wp2_with fail
        go_ret
        exact ⟨⟨_, rfl, by decide⟩, below_drewN HB.out n1⟩
    · go_wp2_with fail
      go_ret
      exact ⟨⟨s, rfl, hs⟩, hb⟩
end Go.Proofs.Ytekpdkjkkglcjaa
