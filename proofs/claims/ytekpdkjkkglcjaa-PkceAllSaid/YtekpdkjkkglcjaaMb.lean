import Derived.Test.YtekpdkjkkglcjaaMa
set_option linter.unusedVariables false
set_option linter.unusedSimpArgs false
set_option maxRecDepth 20000
namespace Go.Proofs.Ytekpdkjkkglcjaa
open Go.RowKit B64
theorem sl38 (n : Nat) (hn : n ≤ 3) (a : Addr) (w : World) : (Instr.sliceAt 68 (.pointer (some a)) none (some (.int .i64 ((n : Int) + 1))) none).run Try.prog w = .ok (.slice (some a) (n + 1) 4) w := by
  have al38 : Try.prog.arrayLen 68 = 4 := by kernel_rfl
  rw [run_sliceAt_array_h w 68 a Try.underlying68 .i64 _ (by omega) (by rw [al38]; omega)]
  have : ((sizeOf (Try.prog.elem 68)).run Try.prog w) = .ok 1 w := by kernel_rfl
  rw [this, al38]
  simp [Result.andThen, slicedAt, Addr.add]
theorem sign_at (q : Nat) (hq : q < 64) (w : World) : (Instr.index 9 (.string ⟨#[65, 66, 67, 68, 69, 70, 71, 72, 73, 74, 75, 76, 77, 78, 79, 80, 81, 82, 83, 84, 85, 86, 87, 88, 89, 90, 97, 98, 99, 100, 101, 102, 103, 104, 105, 106, 107, 108, 109, 110, 111, 112, 113, 114, 115, 116, 117, 118, 119, 120, 121, 122, 48, 49, 50, 51, 52, 53, 54, 55, 56, 57, 45, 95]⟩) (.int .u8 (q : Int))).run Try.prog w = .ok (.int .u8 ((sgn q).toNat : Int)) w := by
  have key : ∀ q : Fin 64, (ByteArray.mk #[65, 66, 67, 68, 69, 70, 71, 72, 73, 74, 75, 76, 77, 78, 79, 80, 81, 82, 83, 84, 85, 86, 87, 88, 89, 90, 97, 98, 99, 100, 101, 102, 103, 104, 105, 106, 107, 108, 109, 110, 111, 112, 113, 114, 115, 116, 117, 118, 119, 120, 121, 122, 48, 49, 50, 51, 52, 53, 54, 55, 56, 57, 45, 95])[q.val]'(by have := q.isLt; exact this) = sgn q.val := by decide
  rw [run_index_string w 9 _ .u8 _ Try.underlying9, dif_pos ⟨by omega, by have : (ByteArray.mk #[65, 66, 67, 68, 69, 70, 71, 72, 73, 74, 75, 76, 77, 78, 79, 80, 81, 82, 83, 84, 85, 86, 87, 88, 89, 90, 97, 98, 99, 100, 101, 102, 103, 104, 105, 106, 107, 108, 109, 110, 111, 112, 113, 114, 115, 116, 117, 118, 119, 120, 121, 122, 48, 49, 50, 51, 52, 53, 54, 55, 56, 57, 45, 95]).size = 64 := rfl; omega⟩]
  have := key ⟨q, hq⟩
  simp only [Int.toNat_natCast]
  rw [this]
theorem sign_ix (q : Nat) (hq : q < 64) (w : World) : (Instr.index 9 (.string ⟨#[65, 66, 67, 68, 69, 70, 71, 72, 73, 74, 75, 76, 77, 78, 79, 80, 81, 82, 83, 84, 85, 86, 87, 88, 89, 90, 97, 98, 99, 100, 101, 102, 103, 104, 105, 106, 107, 108, 109, 110, 111, 112, 113, 114, 115, 116, 117, 118, 119, 120, 121, 122, 48, 49, 50, 51, 52, 53, 54, 55, 56, 57, 45, 95]⟩) (.int .i64 (q : Int))).run Try.prog w = .ok (.int .u8 ((sgn q).toNat : Int)) w := by
  have key : ∀ q : Fin 64, (ByteArray.mk #[65, 66, 67, 68, 69, 70, 71, 72, 73, 74, 75, 76, 77, 78, 79, 80, 81, 82, 83, 84, 85, 86, 87, 88, 89, 90, 97, 98, 99, 100, 101, 102, 103, 104, 105, 106, 107, 108, 109, 110, 111, 112, 113, 114, 115, 116, 117, 118, 119, 120, 121, 122, 48, 49, 50, 51, 52, 53, 54, 55, 56, 57, 45, 95])[q.val]'(by have := q.isLt; exact this) = sgn q.val := by decide
  rw [run_index_string w 9 _ .i64 _ Try.underlying9, dif_pos ⟨by omega, by have : (ByteArray.mk #[65, 66, 67, 68, 69, 70, 71, 72, 73, 74, 75, 76, 77, 78, 79, 80, 81, 82, 83, 84, 85, 86, 87, 88, 89, 90, 97, 98, 99, 100, 101, 102, 103, 104, 105, 106, 107, 108, 109, 110, 111, 112, 113, 114, 115, 116, 117, 118, 119, 120, 121, 122, 48, 49, 50, 51, 52, 53, 54, 55, 56, 57, 45, 95]).size = 64 := rfl; omega⟩]
  have := key ⟨q, hq⟩
  simp only [Int.toNat_natCast]
  rw [this]
set_option maxHeartbeats 1000000 in
theorem enc_walk (A : Option Addr) (m c : Nat) (l : List UInt8) (w : World) (hr : Reads w w.heap.size 1 A m (Lib.byteCells l)) (hm : m ≤ 1000000) (hc : m ≤ c) :
    Calls Try.prog 44 #[.slice A m c] w fun e w' => e = .returned (.string ⟨(enc l).toArray⟩) ∧ Below w.heap.size w w' := by
  have hl := hr.get
  go_enter Try.func44, Try.ntmps44
  go_wp2_with fail
  go_loopw [0] (fun b wr => ∃ (k : Nat) (A' : Option Addr) (c' : Nat), k ≤ m ∧ m - k ≤ c' ∧ b = .slice A' (m - k) c' ∧ Reads w w.heap.size 1 A' (m - k) (Lib.byteCells (l.drop k)) ∧ (k = m ∨ k % 3 = 0) ∧ Lib.IsBuilderF 67 5 w.heap.size w.heap.size (Lib.byteCells (encTo l k 0)) wr ∧ Below w.heap.size w wr) (fun b wr => vLen b)
  case atStart => exact ⟨0, A, c, by omega, by omega, rfl, hr, by omega, builder_new 67 5 w, (Below.refl _ _).alloc (Nat.le_refl _) _⟩
  case round =>
    obtain ⟨k, A', c', hk, hc', rfl, hr', hk3, hb, hbl⟩ := hrel
    have HK3 : Hid (k = m ∨ k % 3 = 0) := hk3
    clear hk3
    by_cases h : m - k = 0
    · go_wp2_with fail
      have e := encTo_all l k (by omega)
      rw [e] at hb
      refine (Try.Builder_String_any_k w.heap.size w.heap.size (enc l) wr hb hbl.size).mono ?_
      rintro e w1 ⟨rfl, hb1, hbl1, _⟩
      go_wp2_with fail
      go_ret
      exact ⟨rfl, hbl.trans hbl1⟩
    · obtain ⟨n, hn, hn1, hn3, hnk, hn4⟩ : ∃ n : Nat, (min 3 ((m - k : Nat) : Int) = (n : Int)) ∧ 1 ≤ n ∧ n ≤ 3 ∧ n ≤ m - k ∧ Hid (n = min 3 (m - k)) := ⟨min 3 (m - k), by omega, by omega, by omega, by omega, rfl⟩
      have hsl := sl38 n hn3
      go_wp2_with fail
      have hf := four_walk A' n n ((l.drop k).take 3) wr (by
        have h1 := hr'.below hbl
        have h2 := hr'.get
        have e : (l.drop k).take 3 = (l.drop k).take n := by
          have := hn4.out
          rcases Nat.lt_or_ge 3 (m - k) with h | h
          · rw [show n = 3 by omega]
          · rw [List.take_of_length_le (by rw [h2]; omega), List.take_of_length_le (by rw [h2]; omega)]
        rw [e]
        exact (h1.frontB hnk).more hbl.size) hn3
      refine hf.mono ?_
      rintro e w1 ⟨rfl, hb1⟩
      clear hf
      go_wp2_with fail
      have hb2 := IsBuilderF.below (IsBuilderF.below hb hb1) ((Below.refl _ _).alloc (Nat.le_refl _) (.cells #[.int .u8 (B64.sxt ((l.drop k).take 3) 0 : Nat), .int .u8 (B64.sxt ((l.drop k).take 3) 1 : Nat), .int .u8 (B64.sxt ((l.drop k).take 3) 2 : Nat), .int .u8 (B64.sxt ((l.drop k).take 3) 3 : Nat)] 68))
      have hx := Blk.new w1 68 #[.int .u8 (B64.sxt ((l.drop k).take 3) 0 : Nat), .int .u8 (B64.sxt ((l.drop k).take 3) 1 : Nat), .int .u8 (B64.sxt ((l.drop k).take 3) 2 : Nat), .int .u8 (B64.sxt ((l.drop k).take 3) 3 : Nat)]
      have hbl2 : Below w.heap.size w (w1.alloc (.cells #[.int .u8 (B64.sxt ((l.drop k).take 3) 0 : Nat), .int .u8 (B64.sxt ((l.drop k).take 3) 1 : Nat), .int .u8 (B64.sxt ((l.drop k).take 3) 2 : Nat), .int .u8 (B64.sxt ((l.drop k).take 3) 3 : Nat)] 68)) := (hbl.trans (hb1.mono hbl.size)).alloc (Nat.le_trans hbl.size hb1.size) _
      obtain ⟨gx, hgxe, hgx⟩ : ∃ gx, w1.heap.size = gx ∧ w.heap.size < gx := ⟨_, rfl, by
        have := hb1.size
        rcases hb with hb | hb <;> (have := hb.lt; omega)⟩
      generalize w1.alloc (.cells #[.int .u8 (B64.sxt ((l.drop k).take 3) 0 : Nat), .int .u8 (B64.sxt ((l.drop k).take 3) 1 : Nat), .int .u8 (B64.sxt ((l.drop k).take 3) 2 : Nat), .int .u8 (B64.sxt ((l.drop k).take 3) 3 : Nat)] 68) = w2 at *
      rw [hgxe] at *
      clear hgxe hb1 hb hbl
      go_loopw [23] (fun i w3 => ∃ j : Nat, j ≤ n + 1 ∧ i = .int .i64 j ∧ Lib.IsBuilderF 67 5 w.heap.size w.heap.size (Lib.byteCells (encTo l k j)) w3 ∧ Blk w3 gx 68 #[.int .u8 (B64.sxt ((l.drop k).take 3) 0 : Nat), .int .u8 (B64.sxt ((l.drop k).take 3) 1 : Nat), .int .u8 (B64.sxt ((l.drop k).take 3) 2 : Nat), .int .u8 (B64.sxt ((l.drop k).take 3) 3 : Nat)] ∧ Below w.heap.size w w3) (fun i w3 => n + 1 - (intOf i).toNat)
      case atStart => exact ⟨0, by omega, rfl, hb2, hx, hbl2⟩
      case round =>
        clear hb2 hx hbl2
        obtain ⟨j, hj, rfl, hb2, hx, hbl2⟩ := hrel
        by_cases hlt : j < n + 1
        · have cj : wr.cell? ⟨gx, j, none⟩ = some (.int .u8 (B64.sxt ((l.drop k).take 3) j : Nat)) := by
            rw [hx.cell j]
            match j, hlt with
            | 0, _ => rfl
            | 1, _ => rfl
            | 2, _ => rfl
            | 3, _ => rfl
            | j + 4, h => omega
          have hsg := sign_at (B64.sxt ((l.drop k).take 3) j) (B64.sxt_lt _ _)
          have hle := encTo_le l k j
          have hwb := Try.Builder_WriteByte_k w.heap.size w.heap.size (Lib.byteCells (encTo l k j)) ((sgn (B64.sxt ((l.drop k).take 3) j)).toNat : Int) wr hb2 (by rw [Lib.byteCells_length]; omega) hbl2.size
          go_wp2_with fail
          refine hwb.mono ?_
          rintro e w4 ⟨rfl, hb4, hbl4, hoth⟩
          have hb4' : Lib.IsBuilderF 67 5 w.heap.size w.heap.size (Lib.byteCells (encTo l k (j + 1))) w4 := by
            rw [encTo_succ, Lib.byteCells_append]
            exact .inr hb4
          have hx4 := hx.others hoth (by simp; omega) (by decide)
          have hbl5 := hbl2.trans hbl4
          clear hwb hb4 hbl4 hoth hx hb2 hbl2 cj hsg hle
          go_wp2_with fail
          go_roundw
          case rel => exact ⟨j + 1, by omega, by go_num, hb4', hx4, hbl5⟩
          case measure => simp [intOf]; omega
        · have hj1 : j = n + 1 := by omega
          go_wp2_with fail
          have hcut := hr'.cutB hnk hc'
          have e1 := encTo_next l k n (by omega) (by rw [hl]; exact HK3.out) (by rw [hl]; exact hn4.out)
          rw [hj1, e1] at hb2
          have h3 := hn4.out
          have h4 := HK3.out
          refine ⟨⟨k + n, _, _, by omega, ?_, by rw [show m - (k + n) = m - k - n by omega], by rw [show m - (k + n) = m - k - n by omega]; rw [List.drop_drop] at hcut; exact hcut, by omega, hb2, hbl2⟩, by show m - k - n < m - k; omega⟩
          omega
end Go.Proofs.Ytekpdkjkkglcjaa
