import Derived.Test.YtnnblddloabbjaaRc
import Derived.Test.YtnnblddloabbjaaTf
set_option linter.unusedVariables false
namespace Go.Proofs.Ytnnblddloabbjaa
open Go.RowKit
abbrev rtokL : List UInt8 := [33, 35, 36, 37, 38, 39, 42, 43, 45, 46, 94, 95, 124, 126]
def rinB (c : Nat) : Bool := rtokL.any fun b => b.toNat == c
theorem rtoken_eq : ∀ c : Fin 256, (letterB c.val || digitB c.val || rinB c.val || (c.val == 96)) = tokenB c.val := by decide +kernel
set_option maxHeartbeats 4000000 in
theorem rtoken_walk (s : ByteArray) (l : List UInt8) (hs : s.data.toList = l) (w : World) (hm : s.size ≤ 1000000) :
    Calls Try.prog 22 #[.string s] w fun e w' => e = .returned (.bool (isToken l)) ∧ w = w' := by
  have hsz : l.length = s.size := by rw [← hs, Lib.size_eq]
  have e : Hid (isToken l = (decide (1 ≤ l.length) && (l.all fun b => tokenB b.toNat))) := rfl
  go_enter Try.func22, Try.ntmps22
  go_wp2_with fail
  go_loopw [3] (fun nv wr => ∃ k : Nat, k ≤ s.size ∧ nv = .int .i64 k ∧ Hid (∀ j, j < k → tokenB (l.getD j 0).toNat = true) ∧ w = wr) (fun nv _ => s.size - (intOf nv).toNat)
  case atStart => exact ⟨0, by omega, rfl, fun j hj => by omega, rfl⟩
  case round =>
    obtain ⟨k, hk, rfl, hp, rfl⟩ := hrel
    by_cases hlt : k < s.size
    · obtain ⟨b, eb, hb, hb2⟩ : ∃ b : Nat, (s[k]'hlt).toNat = b ∧ Hid ((l.getD k 0).toNat = b) ∧ b < 256 := ⟨_, str_at hs hlt, rfl, (l.getD k 0).toNat_lt⟩
      have he := Lib.hid (rtoken_eq ⟨b, hb2⟩)
      have c1 := Lib.hid (rletter_walk b)
      have c2 := Lib.hid (rdigit_walk b)
      have c3 : Hid (∀ w, Calls Try.prog 41 #[.int .u8 (b : Int), .string ⟨#[33, 35, 36, 37, 38, 39, 42, 43, 45, 46, 94, 95, 124, 126]⟩] w fun e w' => e = .returned (.bool (rinB b)) ∧ w = w') := Lib.hid (fun w => rin_walk b ⟨#[33, 35, 36, 37, 38, 39, 42, 43, 45, 46, 94, 95, 124, 126]⟩ rtokL rfl w (by decide))
      have b4 : ((b : Int) == 96) = (b == 96) := by
        by_cases h : b = 96
        · subst h; rfl
        · rw [beq_eq_false_iff_ne.2 h, beq_eq_false_iff_ne]; omega
      simp only at he
      by_cases hcase : tokenB b = true
      · have HN := Lib.hid (upto_one (p := tokenB) hp.out hb.out hcase)
        rw [hcase] at he
        clear hcase
        cases h1 : letterB b <;> rw [h1] at c1 he <;> clear h1
        · cases h2 : digitB b <;> rw [h2] at c2 he <;> clear h2
          · cases h3 : rinB b <;> rw [h3] at c3 he <;> clear h3
            · have h4 : (b == 96) = true := by have := he.out; simpa using this
              rw [h4] at b4
              clear h4
              go_wp2_with fail
              refine (c1.out _).mono ?_
              rintro _ w1 ⟨rfl, rfl⟩
              go_wp2_with fail
              refine (c2.out _).mono ?_
              rintro _ w1 ⟨rfl, rfl⟩
              go_wp2_with fail
              refine (c3.out _).mono ?_
              rintro _ w1 ⟨rfl, rfl⟩
              go_wp2_with fail
              exact ⟨⟨k + 1, by omega, by go_num, HN, trivial⟩, by simp [intOf]; omega⟩
            · go_wp2_with fail
              refine (c1.out _).mono ?_
              rintro _ w1 ⟨rfl, rfl⟩
              go_wp2_with fail
              refine (c2.out _).mono ?_
              rintro _ w1 ⟨rfl, rfl⟩
              go_wp2_with fail
              refine (c3.out _).mono ?_
              rintro _ w1 ⟨rfl, rfl⟩
              go_wp2_with fail
              exact ⟨⟨k + 1, by omega, by go_num, HN, trivial⟩, by simp [intOf]; omega⟩
          · go_wp2_with fail
            refine (c1.out _).mono ?_
            rintro _ w1 ⟨rfl, rfl⟩
            go_wp2_with fail
            refine (c2.out _).mono ?_
            rintro _ w1 ⟨rfl, rfl⟩
            go_wp2_with fail
            exact ⟨⟨k + 1, by omega, by go_num, HN, trivial⟩, by simp [intOf]; omega⟩
        · go_wp2_with fail
          refine (c1.out _).mono ?_
          rintro _ w1 ⟨rfl, rfl⟩
          go_wp2_with fail
          exact ⟨⟨k + 1, by omega, by go_num, HN, trivial⟩, by simp [intOf]; omega⟩
      · rw [Bool.not_eq_true] at hcase
        have hv : Hid ((l.all fun b => tokenB b.toNat) = false) := all_no (p := tokenB) (k := k) (by omega) (by rw [hb.out]; exact hcase)
        have he2 := he.out
        rw [hcase] at he2
        simp only [Bool.or_eq_false_iff] at he2
        obtain ⟨⟨⟨h1, h2⟩, h3⟩, h4⟩ := he2
        rw [h1] at c1
        rw [h2] at c2
        rw [h3] at c3
        rw [h4] at b4
        clear h1 h2 h3 h4 hcase he
        go_wp2_with fail
        refine (c1.out _).mono ?_
        rintro _ w1 ⟨rfl, rfl⟩
        go_wp2_with fail
        refine (c2.out _).mono ?_
        rintro _ w1 ⟨rfl, rfl⟩
        go_wp2_with fail
        refine (c3.out _).mono ?_
        rintro _ w1 ⟨rfl, rfl⟩
        go_wp2_with fail
        go_ret
        exact ⟨by rw [e.out, hv.out, Bool.and_false]; rfl, rfl⟩
    · have hv : Hid ((l.all fun b => tokenB b.toNat) = true) := all_yes (fun j hj => hp.out j (by omega))
      by_cases h1 : 1 ≤ s.size
      all_goals
        go_wp2_with fail
        go_ret
        refine ⟨?_, rfl⟩
        rw [e.out, hv.out]
        first | (simp [hsz, h1]; done) | (simp [hsz, h1]; omega)
set_option maxHeartbeats 1000000 in
theorem rfold_walk (s : ByteArray) (l : List UInt8) (hs : s.data.toList = l) (w : World) (hm : s.size ≤ 1000000) :
    Calls Try.prog 26 #[.string s] w fun e w' => e = .returned (.string ⟨(foldL l).toArray⟩) ∧ Below w.heap.size w w' := by
  obtain rfl : s = ⟨l.toArray⟩ := str_eq (by rw [hs])
  have hsz : (ByteArray.mk l.toArray).size = l.length := by simp [ByteArray.size]
  have hcv := fun w => Lib.run_convert_string_bytes (P := Try.prog) w 9 33 5 ⟨l.toArray⟩ Try.underlying9 Try.underlying33 Try.underlying5
  rw [hsz] at hcv hm
  clear hsz
  go_enter Try.func26, Try.ntmps26
  go_wp2_with fail
  go_loopw [4] (fun nv wr => ∃ k : Nat, k ≤ l.length ∧ nv = .int .i64 k ∧ Hid (BRow 5 wr w.heap.size (foldTo l k)) ∧ Below w.heap.size w wr) (fun nv _ => l.length - (intOf nv).toNat)
  case atStart => exact ⟨0, by omega, rfl, BRow.new 5 w l, below_bytes 5 w l⟩
  case round =>
    obtain ⟨k, hk, rfl, hrow, hbl⟩ := hrel
    by_cases hlt : k < l.length
    · have hcl := hrow.out.cell (j := k) (by rw [foldTo_length]; exact hlt)
      have hfr := hrow.out.frozen (j := k) (by rw [foldTo_length]; exact hlt)
      rw [foldTo_get hlt] at hcl
      obtain ⟨b, hb, hb2⟩ : ∃ b : Nat, Hid ((l.getD k 0).toNat = b) ∧ b < 256 := ⟨_, rfl, (l.getD k 0).toNat_lt⟩
      rw [hb.out] at hcl
      by_cases hg : 65 ≤ b ∧ b ≤ 90
      · have HN : Hid (BRow 5 (wr.setCell ⟨w.heap.size, k, none⟩ (.int .u8 ((b + 32 : Nat) : Int))) w.heap.size (foldTo l (k + 1))) := by
          show BRow _ _ _ _
          have := hrow.out.set_ (j := k) (by rw [foldTo_length]; exact hlt) (b + 32) (by omega)
          rwa [show UInt8.ofNat (b + 32) = foldB (l.getD k 0) by rw [foldB, hb.out, show greatB b = true by simp [greatB, hg]]; rfl, foldTo_set hlt] at this
        obtain ⟨hg1, hg2⟩ := hg
        go_wp2_with fail
        rw [show ((b + 32 : Nat) : Int) = (b : Int) + 32 by omega] at HN
        exact ⟨⟨k + 1, by omega, by go_num, HN, hbl.setCell (by simp) _⟩, by simp [intOf]; omega⟩
      · have HN : Hid (BRow 5 wr w.heap.size (foldTo l (k + 1))) := by
          show BRow _ _ _ _
          rw [foldTo_same hlt (by rw [foldB, hb.out, show greatB b = false by simp [greatB]; omega]; rfl)]; exact hrow.out
        by_cases h1 : 65 ≤ b
        · have h2 : ¬ b ≤ 90 := by omega
          clear hg
          go_wp2_with fail
          exact ⟨⟨k + 1, by omega, by go_num, HN, hbl⟩, by simp [intOf]; omega⟩
        · clear hg
          go_wp2_with fail
          exact ⟨⟨k + 1, by omega, by go_num, HN, hbl⟩, by simp [intOf]; omega⟩
    · have hke : k = l.length := by omega
      have hrd := hrow.out.reads
      rw [hke, foldTo_all] at hrd
      have hln : (foldL l).length = l.length := by simp [foldL]
      rw [hln] at hrd
      have hst := fun c => reads_str (P := Try.prog) (c := c) hrd 33 9 5 Try.underlying33 Try.underlying5 Try.underlying9
      clear hke hln hrow
      go_wp2_with fail
      go_ret
      exact ⟨rfl, hbl⟩
end Go.Proofs.Ytnnblddloabbjaa
