import Derived.Test.YtnlaeamogmplhaaBh
import Derived.Test.YtnlaeamogmplhaaB64u
set_option linter.unusedVariables false
namespace Go.Proofs.Ytnlaeamogmplhaa
open Go.RowKit B64
def Gives (b : List UInt8) (w : World) (e : Ending) (w' : World) : Prop :=
  ∃ A c, e = .returned (.tuple #[.slice A b.length c, .int .i64 0]) ∧ Reads w' w'.heap.size 1 A b.length (Lib.byteCells b) ∧ b.length ≤ c ∧ Below w.heap.size w w'
def GivesNone (w : World) (e : Ending) (w' : World) : Prop :=
  e = .returned (.tuple #[.slice none 0 0, .int .i64 3]) ∧ Below w.heap.size w w'
theorem dec_some (s : ByteArray) (w : World) (hm : s.size ≤ 1000000) (b : List UInt8) (h : dec s.data.toList = some b) : Calls Try.prog 8 #[.string s] w (Gives b w) :=
  (dec_walk s _ rfl w hm).mono fun e w' ⟨hb, hp⟩ => by
    rcases hp with ⟨b', v, hd, rfl, hown⟩ | ⟨hd, _⟩
    · rw [h] at hd
      injection hd with hd
      subst hd
      obtain ⟨A, c, rfl, hc, hr⟩ := own_reads hown (Nat.le_refl _)
      exact ⟨A, c, rfl, hr, hc, hb⟩
    · rw [h] at hd; cases hd
theorem dec_none (s : ByteArray) (w : World) (hm : s.size ≤ 1000000) (h : dec s.data.toList = none) : Calls Try.prog 8 #[.string s] w (GivesNone w) :=
  (dec_walk s _ rfl w hm).mono fun e w' ⟨hb, hp⟩ => by
    rcases hp with ⟨b', v, hd, rfl, hown⟩ | ⟨hd, rfl⟩
    · rw [h] at hd; cases hd
    · exact ⟨rfl, hb⟩
theorem rdec_some (s : ByteArray) (w : World) (hm : s.size ≤ 1000000) (b : List UInt8) (h : dec s.data.toList = some b) : Calls Try.prog 9 #[.string s] w (Gives b w) :=
  (rdec_walk s _ rfl w hm).mono fun e w' ⟨hb, hp⟩ => by
    rw [rdec_eq] at hp
    rcases hp with ⟨b', v, hd, rfl, hown⟩ | ⟨hd, _⟩
    · rw [h] at hd
      injection hd with hd
      subst hd
      obtain ⟨A, c, rfl, hc, hr⟩ := own_reads hown (Nat.le_refl _)
      exact ⟨A, c, rfl, hr, hc, hb⟩
    · rw [h] at hd; cases hd
theorem rdec_none (s : ByteArray) (w : World) (hm : s.size ≤ 1000000) (h : dec s.data.toList = none) : Calls Try.prog 9 #[.string s] w (GivesNone w) :=
  (rdec_walk s _ rfl w hm).mono fun e w' ⟨hb, hp⟩ => by
    rw [rdec_eq] at hp
    rcases hp with ⟨b', v, hd, rfl, hown⟩ | ⟨hd, rfl⟩
    · rw [h] at hd; cases hd
    · exact ⟨rfl, hb⟩
set_option maxHeartbeats 1000000 in
theorem known_walk (w : World) : Calls Try.prog 6 #[] w fun e w' => e = .returned (.bool true) ∧ Below w.heap.size w w' := by
  go_enter Try.func6, Try.ntmps6
  go_wp2_with fail
  refine (dec_some ⟨#[95, 119]⟩ w (by decide) [255] (by decide +kernel)).mono ?_
  rintro e w1 ⟨A, c, rfl, hr1, hc1, hb1⟩
  go_wp2_with fail
  refine (dec_none ⟨#[95, 120]⟩ w1 (by decide) (by decide +kernel)).mono ?_
  rintro e w2 ⟨rfl, hb2⟩
  go_wp2_with fail
  have hrn : Reads (w2.alloc (.cells #[.int .u8 255] 5)) (w2.alloc (.cells #[.int .u8 255] 5)).heap.size 1 (some ⟨w2.heap.size, 0, none⟩) 1 (Lib.byteCells [255]) := (reads_new w2 5 [.int .u8 255]).more (by simp)
  refine (enc_walk _ 1 1 [255] _ hrn (by decide) (by decide)).mono ?_
  rintro e w3 ⟨rfl, hb3⟩
  have hb4 : Below w1.heap.size w1 w3 := (hb2.alloc hb2.size _).trans (hb3.mono (by have := hb2.size; simp; omega))
  obtain ⟨b, o, x, rfl, hbl, hcell, hx, hxx⟩ := (hr1.below hb4).byteN (k := 0) (by decide)
  obtain rfl : 255 = x := hxx.out
  have hx0 : w3.cell? ⟨b, o, none⟩ = some (.int .u8 255) := hcell
  have he : (enc [255] == [95, 119]) = true := by decide +kernel
  have hb5 := hb1.trans (hb4.mono hb1.size)
  clear hcell hxx hrn hr1 hb2 hb3 hb4 hbl
  go_wp2_with fail
  refine (enc_walk none 0 0 [] w3 Reads.none_ (by decide) (by decide)).mono ?_
  rintro e w4 ⟨rfl, hb6⟩
  have he2 : (enc [] == []) = true := rfl
  go_wp2_with fail
  go_ret
  exact ⟨rfl, hb5.trans (hb6.mono hb5.size)⟩
end Go.Proofs.Ytnlaeamogmplhaa
