import Derived.Test.YtekpdkjkkglcjaaMd
import Derived.Deep.RegionLaw
set_option linter.unusedVariables false
set_option linter.unusedSimpArgs false
set_option maxRecDepth 20000
namespace Go.Proofs.Ytekpdkjkkglcjaa
open Go.RowKit B64
def DecPost (l : List UInt8) (w : World) (e : Ending) (w' : World) : Prop :=
  Below w.heap.size w w' ∧ ((∃ b v, dec l = some b ∧ e = .returned (.tuple #[v, .int .i64 0]) ∧ w'.ownsRow w.heap.size 5 1 v b.length (Lib.byteCells b)) ∨ (dec l = none ∧ e = .returned (.tuple #[.slice none 0 0, .int .i64 3])))

set_option maxHeartbeats 1000000 in
theorem dec_walk (s : ByteArray) (l : List UInt8) (hs : s.data.toList = l) (w : World) (hm : s.size ≤ 1000000) :
    Calls Try.prog 47 #[.string s] w (DecPost l w) := by
  go_enter Try.func47, Try.ntmps47
  go_wp2_with fail
  go_loopw [0, 4] (fun sv ov wr => ∃ (t : ByteArray) (acc : List UInt8), sv = .string t ∧ wr.ownsRow w.heap.size 5 1 ov acc.length (Lib.byteCells acc) ∧ Hid (dec l = (dec t.data.toList).map (acc ++ ·)) ∧ acc.length + t.size ≤ s.size ∧ Below w.heap.size w wr) (fun sv _ _ => vLen sv)
  case atStart => exact ⟨s, [], rfl, World.ownsRow_nil _ _ _ _, by rw [hs]; show _ = _; simp, by simp, Below.refl _ _⟩
  case round =>
    obtain ⟨t, acc, rfl, hown, hdec, hsz, hbl⟩ := hrel
    by_cases h0 : t.size = 0
    · have he : t.toList = [] := str_nil h0
      go_wp2_with fail
      go_ret2
      refine ⟨hbl, .inl ⟨acc, u4, ?_, rfl, hown⟩⟩
      rw [hdec.out, show t.data.toList = [] from List.eq_nil_of_length_eq_zero (by simpa using h0)]
      simp [dec]
    · have he : t.toList.isEmpty = false := (str_ne h0).1
      have he2 : ¬ t.toList = [] := (str_ne h0).2
      obtain ⟨n, hn, hn1, hn4, hnt, hnm⟩ : ∃ n : Nat, (min 4 (t.size : Int) = (n : Int)) ∧ 1 ≤ n ∧ n ≤ 4 ∧ n ≤ t.size ∧ Hid (n = min 4 t.size) := ⟨min 4 t.size, by omega, by omega, by omega, by omega, rfl⟩
      go_wp2_with fail
      have hex : (t.extract 0 n).data.toList = t.data.toList.take 4 := by
        have := hnm.out
        rw [Lib.extract_data, List.drop_zero, Nat.sub_zero, this, Lib.size_eq, take_min]
      refine (part_walk _ _ hex wr (by simp; omega) (by simp; omega)).mono ?_
      rintro e w1 ⟨hb1, hp⟩
      have hst := dec_step t.data.toList (fun h => h0 (by have := congrArg List.length h; simpa using this))
      have HST := Lib.hid hst
      clear hst
      by_cases hok : partOk (t.data.toList.take 4) = true
      · rw [if_pos hok] at hp
        obtain ⟨A, c, rfl, hrd⟩ := hp
        go_wp2_with fail
        obtain ⟨i0, hi, hz0, hz1, hz2⟩ := info_parts info5
        have hown1 : w1.drew.ownsRow w.heap.size 5 1 u4 acc.length (Lib.byteCells acc) := (ownsRow_below hown hb1).drew
        have hrd1 : Reads w1.drew w1.drew.heap.size 1 A (thrL (t.data.toList.take 4)).length (Lib.byteCells (thrL (t.data.toList.take 4))) := hrd
        have hlen : (thrL (t.data.toList.take 4)).length + 1 = n := by
          have := hnm.out
          rw [thrL_length, List.length_take, ← Lib.size_eq]; omega
        have hbl1 : Below w.heap.size w w1.drew := (hbl.trans (hb1.mono hbl.size)).drew
        have hn0 : (0 : Int) ≤ (n : Int) := by omega
        have hnt' : (n : Int) ≤ (t.size : Int) := by omega
        clear hrd hb1
        go_region_law (refine step_append_any w1.drew rfl (.tmp 22) (.tmp 23) 49 rfl w.heap.size 5 i0 (.int .u8 0) 1 1 Try.underlying49 hi hz0 hz1 hz2 rfl (by decide) u4 acc.length (Lib.byteCells acc) rfl hown1 w1.drew.heap.size A _ c _ rfl hrd1 (Lib.byteCells_one _) (by unfold maxLen; omega) (by omega) hbl1.size ?_; intro v' w2 hown2 hg2 hat2)
        have hbl2 := hbl1.grown hg2 hbl1.size (fun g hg => by have := hown1.lt g hg; omega)
        rw [← Lib.byteCells_append, ← List.length_append] at hown2
        have hdec2 : Hid (dec l = (dec (t.extract n t.size).data.toList).map ((acc ++ thrL (t.data.toList.take 4)) ++ ·)) := by
          show _ = _
          have e0 : (t.extract n t.size).data.toList = t.data.toList.drop n := by rw [Lib.extract_data]; exact List.take_of_length_le (by simp)
          rw [hdec.out, HST.out, if_pos hok, e0, Option.map_map]
          have e : t.data.toList.drop n = t.data.toList.drop 4 := by
            have := hnm.out
            rcases Nat.lt_or_ge 4 t.size with h | h
            · rw [show n = 4 by omega]
            · have hh : t.data.toList.length ≤ 4 := by rw [← Lib.size_eq]; exact h
              have hh2 : t.data.toList.length ≤ n := by rw [← Lib.size_eq]; omega
              rw [List.drop_of_length_le hh, List.drop_of_length_le hh2]
          rw [e]
          cases dec (t.data.toList.drop 4) <;> simp
        have hsz2 : (acc ++ thrL (t.data.toList.take 4)).length + (t.extract n t.size).size ≤ s.size := by
          simp; omega
        have hsz3 : (t.extract n t.size).size < t.size := by simp; omega
        clear hdec HST hown hown1 hrd1 hex hg2 hat2
        go_wp2_with fail
        go_roundw
        case rel =>
          (repeat apply Exists.intro)
          exact ⟨⟨_, _, rfl, hown2, hdec2, hsz2, hbl2⟩, rfl⟩
        case measure => exact hsz3
      · rw [if_neg hok] at hp
        obtain ⟨v, rfl⟩ := hp
        go_wp2_with fail
        go_ret2
        refine ⟨hbl.trans (hb1.mono hbl.size), .inr ⟨?_, rfl⟩⟩
        rw [hdec.out, HST.out, if_neg hok]
        rfl
end Go.Proofs.Ytekpdkjkkglcjaa
