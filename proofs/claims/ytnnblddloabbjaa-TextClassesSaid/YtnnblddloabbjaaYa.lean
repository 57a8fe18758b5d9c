import Derived.Test.YtnnblddloabbjaaKn
set_option linter.unusedVariables false
namespace Go.Proofs.Ytnnblddloabbjaa
open Go.RowKit Tx
theorem blk3 {w : World} {g : Nat} {t : TypeId} {a b c : ByteArray} {m : Nat} (h : Blk w g t #[.string a, .string b, .string c]) (ha : a.size ≤ m) (hb : b.size ≤ m) (hc : c.size ≤ m) {i : Nat} (hi : i < 3) : ∃ x : ByteArray, x.size ≤ m ∧ w.cell? ⟨g, i, none⟩ = some (.string x) := by
  rcases show i = 0 ∨ i = 1 ∨ i = 2 by omega with rfl | rfl | rfl
  · exact ⟨a, ha, h.cell 0⟩
  · exact ⟨b, hb, h.cell 1⟩
  · exact ⟨c, hc, h.cell 2⟩
theorem blk2 {w : World} {g : Nat} {t : TypeId} {a b : ByteArray} {m : Nat} (h : Blk w g t #[.string a, .string b]) (ha : a.size ≤ m) (hb : b.size ≤ m) {i : Nat} (hi : i < 2) : ∃ x : ByteArray, x.size ≤ m ∧ w.cell? ⟨g, i, none⟩ = some (.string x) := by
  rcases show i = 0 ∨ i = 1 by omega with rfl | rfl
  · exact ⟨a, ha, h.cell 0⟩
  · exact ⟨b, hb, h.cell 1⟩
/-- what a law is told of numbers that came in -/
def IntsIn (w : World) (A : Option Addr) (c : Nat) (zs : List Int) : Prop :=
  zs.length ≤ c ∧ zs.length ≤ 9223372036854775807 ∧ (∀ z ∈ zs, -9223372036854775808 ≤ z ∧ z ≤ 9223372036854775807) ∧ Reads w w.heap.size 1 A zs.length (zs.map (Value.int .i64))
theorem IntsIn.below {w w' : World} {A : Option Addr} {c : Nat} {zs : List Int} (h : IntsIn w A c zs) (hb : Below w.heap.size w w') : IntsIn w' A c zs :=
  ⟨h.1, h.2.1, h.2.2.1, (h.2.2.2.below hb).more hb.size⟩
theorem IsRow.intsIn {w : World} {a : Option Addr} {len cap : Nat} {zs : List Int} (h : IsRow .i64 w a len cap zs) : ∃ l : List Int, len = l.length ∧ IntsIn w a cap l := by
  obtain ⟨h1, h2, h3, h4⟩ := h.ints
  have hcap : cap ≤ 9223372036854775807 := by
    rcases h with ⟨_, _, rfl, _⟩ | ⟨x, _, _, hm, _⟩
    · omega
    · simpa [maxLen] using hm
  refine ⟨zs.take len, h3.symm, by omega, by omega, fun z hz => ?_, ?_⟩
  · have := h4 z hz
    simpa [Lit.wf, IntKind.min, IntKind.max, IntKind.signed, IntKind.bits] using this
  · rw [h3]; exact h1
theorem i64_wf {a : Int} (h : (Lit.int .i64 a).wf = true) : -9223372036854775808 ≤ a ∧ a ≤ 9223372036854775807 := by
  simpa [Lit.wf, IntKind.min, IntKind.max, IntKind.signed, IntKind.bits] using h
theorem u8_wf {a : Int} (h : (Lit.int .u8 a).wf = true) : 0 ≤ a ∧ a ≤ 255 := by
  simpa [Lit.wf, IntKind.min, IntKind.max, IntKind.signed, IntKind.bits] using h
theorem some_in {zs : List Int} {A : Option Addr} {c : Nat} (most : Nat) (hm : most ≤ 1000) {w : World} (h : IntsIn w A c zs) :
    Calls Try.prog 9 #[.slice A zs.length c, .int .i64 most] w (SomeStr (4 * most) w) :=
  some_walk zs A c most hm h.1 h.2.1 h.2.2.1 w h.2.2.2
set_option maxHeartbeats 2000000 in
set_option maxRecDepth 100000 in
theorem textRunes_walk (raw : ByteArray) (A : Option Addr) (c : Nat) (zs : List Int) (n : Int) (w : World) (hr : IntsIn w A c zs) (hm : raw.size ≤ 9223372036854775807) (hn : -9223372036854775808 ≤ n ∧ n ≤ 9223372036854775807) :
    Calls Try.prog 3 #[.string raw, .slice A zs.length c, .int .i64 n] w fun e w' => e = .returned (.bool true) ∧ Below w.heap.size w w' := by
  have HR := Lib.hid hr
  have HN := Lib.hid hn
  clear hr hn
  have hb := Below.refl w.heap.size w
  by_cases h2 : 200 < raw.size
  · go_enter Try.func3, Try.ntmps3
    go_wp2_with fail
    refine (known6_walk _).mono ?_
    rintro _ w1 ⟨rfl, hbn⟩
    replace hb := below_next hb hbn
    clear hbn
    go_wp2_with fail
    go_ret
    exact ⟨rfl, hb⟩
  · have h40 := Lib.hid (show -9223372036854775808 ≤ n % 40 ∧ n % 40 ≤ 9223372036854775807 by omega)
    go_enter Try.func3, Try.ntmps3
    go_wp2_with fail
    refine (known6_walk _).mono ?_
    rintro _ w1 ⟨rfl, hbn⟩
    replace hb := below_next hb hbn
    clear hbn
    go_wp2_with fail
    refine (some_in 30 (by omega) (HR.out.below hb)).mono ?_
    rintro _ w1 ⟨s1, hs1, rfl, hbn⟩
    replace hb := below_next hb hbn
    clear hbn
    go_wp2_with fail
    refine (some_in 30 (by omega) (HR.out.below hb)).mono ?_
    rintro _ w2 ⟨s2, hs2, rfl, hbn⟩
    replace hb := below_next hb hbn
    clear hbn
    go_wp2_with fail
    go_loopw [8] (fun nv wr => ∃ i : Nat, i ≤ 3 ∧ nv = .int .i64 i ∧ Hid (Blk wr w2.heap.size 9 #[.string raw, .string s1, .string (s2 ++ raw)]) ∧ Below w.heap.size w wr) (fun nv _ => 3 - (intOf nv).toNat)
    case atStart => exact ⟨0, by omega, rfl, Blk.new _ _ _, hb.alloc hb.size _⟩
    case round =>
      clear hb
      obtain ⟨i, hi, rfl, hblk, hb0⟩ := hrel
      have HB0 := Lib.hid hb0
      have hb := Below.refl wr.heap.size wr
      clear hb0
      by_cases hlt : i < 3
      · obtain ⟨x, hx, hcell⟩ := blk3 (m := 1000000) hblk.out (by omega) (by omega) (by simp; omega) hlt
        have hw2 := Lib.hid (show w2.heap.size < wr.heap.size from hblk.out.lt)
        go_wp2_with fail
        refine (valid_walk x _ rfl _ hx).mono ?_
        rintro _ w1 ⟨rfl, hbn⟩
        replace hb := below_next hb hbn
        clear hbn
        go_wp2_with fail
        refine (rvalid_walk x _ rfl _ hx).mono ?_
        rintro _ w1 ⟨rfl, hbn⟩
        replace hb := below_next hb hbn
        clear hbn
        go_wp2_with fail
        refine (runes_walk x _ rfl _ hx).mono ?_
        rintro _ w1 ⟨rfl, hbn⟩
        replace hb := below_next hb hbn
        clear hbn
        go_wp2_with fail
        refine (rrunes_walk x _ rfl _ hx).mono ?_
        rintro _ w1 ⟨rfl, hbn⟩
        replace hb := below_next hb hbn
        clear hbn
        go_wp2_with fail
        refine (name_walk x _ rfl _ hx).mono ?_
        rintro _ w1 ⟨rfl, hbn⟩
        replace hb := below_next hb hbn
        clear hbn
        go_wp2_with fail
        refine (rname_walk x _ rfl _ hx).mono ?_
        rintro _ w1 ⟨rfl, hbn⟩
        replace hb := below_next hb hbn
        clear hbn
        go_wp2_with fail
        refine (clip_walk x _ rfl n _ hx HN.out).mono ?_
        rintro _ w1 ⟨rfl, hbn⟩
        replace hb := below_next hb hbn
        clear hbn
        go_wp2_with fail
        refine (rclip_walk x _ rfl n _ hx HN.out).mono ?_
        rintro _ w1 ⟨rfl, hbn⟩
        replace hb := below_next hb hbn
        clear hbn
        go_wp2_with fail
        refine (within6_walk n 40 _ (by omega) (by omega) HN.out).mono ?_
        rintro _ w1 ⟨rfl, rfl⟩
        go_wp2_with fail
        refine (clip_walk x _ rfl (n % 40) _ hx h40.out).mono ?_
        rintro _ w1 ⟨rfl, hbn⟩
        replace hb := below_next hb hbn
        clear hbn
        go_wp2_with fail
        refine (within6_walk n 40 _ (by omega) (by omega) HN.out).mono ?_
        rintro _ w1 ⟨rfl, rfl⟩
        go_wp2_with fail
        refine (rclip_walk x _ rfl (n % 40) _ hx h40.out).mono ?_
        rintro _ w1 ⟨rfl, hbn⟩
        replace hb := below_next hb hbn
        clear hbn
        go_wp2_with fail
        exact ⟨⟨i + 1, by omega, by go_num, hblk.out.below hb hw2.out, below_next HB0.out hb⟩, by simp [intOf]; omega⟩
      · go_wp2_with fail
        go_ret
        exact ⟨rfl, HB0.out⟩
set_option maxHeartbeats 2000000 in
set_option maxRecDepth 100000 in
theorem textBytes_walk (raw : ByteArray) (A : Option Addr) (c : Nat) (zs : List Int) (w : World) (hr : IntsIn w A c zs) (hm : raw.size ≤ 9223372036854775807) :
    Calls Try.prog 4 #[.string raw, .slice A zs.length c] w fun e w' => e = .returned (.bool true) ∧ Below w.heap.size w w' := by
  have HR := Lib.hid hr
  clear hr
  have hb := Below.refl w.heap.size w
  by_cases h2 : 300 < raw.size
  · go_enter Try.func4, Try.ntmps4
    go_wp2_with fail
    refine (known6_walk _).mono ?_
    rintro _ w1 ⟨rfl, hbn⟩
    replace hb := below_next hb hbn
    clear hbn
    go_wp2_with fail
    go_ret
    exact ⟨rfl, hb⟩
  · go_enter Try.func4, Try.ntmps4
    go_wp2_with fail
    refine (known6_walk _).mono ?_
    rintro _ w1 ⟨rfl, hbn⟩
    replace hb := below_next hb hbn
    clear hbn
    go_wp2_with fail
    refine (some_in 30 (by omega) (HR.out.below hb)).mono ?_
    rintro _ w2 ⟨s1, hs1, rfl, hbn⟩
    replace hb := below_next hb hbn
    clear hbn
    go_wp2_with fail
    go_loopw [6] (fun nv wr => ∃ i : Nat, i ≤ 2 ∧ nv = .int .i64 i ∧ Hid (Blk wr w2.heap.size 9 #[.string raw, .string s1]) ∧ Below w.heap.size w wr) (fun nv _ => 2 - (intOf nv).toNat)
    case atStart => exact ⟨0, by omega, rfl, Blk.new _ _ _, hb.alloc hb.size _⟩
    case round =>
      clear hb
      obtain ⟨i, hi, rfl, hblk, hb0⟩ := hrel
      have HB0 := Lib.hid hb0
      have hb := Below.refl wr.heap.size wr
      clear hb0
      by_cases hlt : i < 2
      · obtain ⟨x, hx, hcell⟩ := blk2 (m := 1000000) hblk.out (by omega) (by omega) hlt
        have hw2 := Lib.hid (show w2.heap.size < wr.heap.size from hblk.out.lt)
        go_wp2_with fail
        refine (word_walk x _ rfl _ hx).mono ?_
        rintro _ w1 ⟨rfl, rfl⟩
        go_wp2_with fail
        refine (rword_walk x _ rfl _ hx).mono ?_
        rintro _ w1 ⟨rfl, rfl⟩
        go_wp2_with fail
        refine (token_walk x _ rfl _ hx).mono ?_
        rintro _ w1 ⟨rfl, rfl⟩
        go_wp2_with fail
        refine (rtoken_walk x _ rfl _ hx).mono ?_
        rintro _ w1 ⟨rfl, rfl⟩
        go_wp2_with fail
        refine (seen_walk x _ rfl _ hx).mono ?_
        rintro _ w1 ⟨rfl, rfl⟩
        go_wp2_with fail
        refine (rseen_walk x _ rfl _ hx).mono ?_
        rintro _ w1 ⟨rfl, rfl⟩
        go_wp2_with fail
        refine (fold_walk x _ rfl _ hx).mono ?_
        rintro _ w1 ⟨rfl, hbn⟩
        replace hb := below_next hb hbn
        clear hbn
        go_wp2_with fail
        refine (rfold_walk x _ rfl _ hx).mono ?_
        rintro _ w1 ⟨rfl, hbn⟩
        replace hb := below_next hb hbn
        clear hbn
        go_wp2_with fail
        exact ⟨⟨i + 1, by omega, by go_num, hblk.out.below hb hw2.out, below_next HB0.out hb⟩, by simp [intOf]; omega⟩
      · go_wp2_with fail
        go_ret
        exact ⟨rfl, HB0.out⟩
end Go.Proofs.Ytnnblddloabbjaa
