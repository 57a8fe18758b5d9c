import Derived.Test.YtekpdkjkkglcjaaDh
set_option linter.unusedVariables false
set_option linter.unusedSimpArgs false
set_option maxRecDepth 20000
namespace Go.Proofs.Ytekpdkjkkglcjaa
open Go.RowKit
theorem numT_err {l : List UInt8} {p n most : Nat} {c : Int} (h : numT l p n most = .error c) : 1 ≤ c ∧ c ≤ 4 := by
  rw [numT] at h
  split at h
  · injection h with e; omega
  · split at h
    · injection h with e; omega
    · cases h
theorem atomT_err {l : List UInt8} {p : Nat} {c : Int} (h : atomT l p = .error c) : 1 ≤ c ∧ c ≤ 4 := by
  rw [atomT] at h
  cases hN : numT l p 2 1024 with
  | error e => rw [hN] at h; injection h with h; subst h; exact numT_err hN
  | ok r =>
    obtain ⟨m, q⟩ := r
    rw [hN] at h
    simp only at h
    split at h
    · injection h with e; omega
    · cases h
theorem decK_err (d : Nat) (hT : ∀ l p n c, decT d l p n = .error c → 1 ≤ c ∧ c ≤ 4) : ∀ m l p n c, decK m d l p n = .error c → 1 ≤ c ∧ c ≤ 4
  | 0, l, p, n, c, h => by rw [decK] at h; cases h
  | m + 1, l, p, n, c, h => by
    rw [decK] at h
    cases hD : decT d l p n with
    | error e => rw [hD] at h; injection h with h; subst h; exact hT _ _ _ _ hD
    | ok r =>
      obtain ⟨t, q, n'⟩ := r
      rw [hD] at h
      simp only at h
      cases hK : decK m d l q n' with
      | error e => rw [hK] at h; injection h with h; subst h; exact decK_err d hT m _ _ _ _ hK
      | ok r2 => obtain ⟨ts, q2, n2⟩ := r2; rw [hK] at h; cases h
theorem decT_err : ∀ d l p n c, decT d l p n = .error c → 1 ≤ c ∧ c ≤ 4
  | 0, l, p, n, c, h => by rw [decT] at h; injection h with e; omega
  | d + 1, l, p, n, c, h => by
    have hK := decK_err d (decT_err d)
    rw [decT] at h
    split at h
    · injection h with e; omega
    · cases hp : l[p]? with
      | none => rw [hp] at h; injection h with e; omega
      | some k =>
        rw [hp] at h
        simp only at h
        split at h
        · cases hA : atomT l (p + 1) with
          | error e => rw [hA] at h; injection h with h; subst h; exact atomT_err hA
          | ok r => obtain ⟨s, q⟩ := r; rw [hA] at h; cases h
        · split at h
          · cases hA : numT l (p + 1) 4 1073741824 with
            | error e => rw [hA] at h; injection h with h; subst h; exact numT_err hA
            | ok r => obtain ⟨s, q⟩ := r; rw [hA] at h; cases h
          · split at h
            · cases hA : decK 1 d l (p + 1) (n + 1) with
              | error e => rw [hA] at h; injection h with h; subst h; exact hK _ _ _ _ _ hA
              | ok r => obtain ⟨s, q, n2⟩ := r; rw [hA] at h; cases h
            · split at h
              · cases hA : decK 2 d l (p + 1) (n + 1) with
                | error e => rw [hA] at h; injection h with h; subst h; exact hK _ _ _ _ _ hA
                | ok r => obtain ⟨s, q, n2⟩ := r; rw [hA] at h; cases h
              · injection h with e; omega
theorem takeT_err {l : List UInt8} {c : Int} (h : takeT l = .error c) : 1 ≤ c ∧ c ≤ 4 := by
  rw [takeT] at h
  cases hD : decT 16 l 0 0 with
  | error e => rw [hD] at h; injection h with h; subst h; exact decT_err _ _ _ _ _ hD
  | ok r => obtain ⟨t, q, n⟩ := r; rw [hD] at h; cases h
/-- what One answers -/
def oneT (l : List UInt8) : Except Int Tm :=
  match takeT l with
  | .error c => .error c
  | .ok (t, q) => if q < l.length then .error 5 else .ok t
def OneR (r : Except Int Tm) (w : World) (e : Ending) (w' : World) : Prop :=
  match r with
  | .error c => e = .returned (.tuple #[.agg #[.int .i64 0, .int .i64 0, .string ⟨#[]⟩, .slice none 0 0], .int .i64 c]) ∧ Below w.heap.size w w'
  | .ok t => ∃ (kd nm : Int) (s : ByteArray) (A : Option Addr) (m cp : Nat), e = .returned (.tuple #[.agg #[.int .i64 kd, .int .i64 nm, .string s, .slice A m cp], .int .i64 0]) ∧ TmV w' w.heap.size t [.int .i64 kd, .int .i64 nm, .string s, .slice A m cp] ∧ Below w.heap.size w w'
set_option maxHeartbeats 4000000 in
theorem one_walk (l : List UInt8) (A : Option Addr) (c : Nat) (w : World) (hl : l.length ≤ 1000000) (hc : l.length ≤ c) (hc2 : c ≤ 9223372036854775807) (hr : Reads w w.heap.size 1 A l.length (Lib.byteCells l)) :
    Calls Try.prog 48 #[.slice A l.length c] w (OneR (oneT l) w) := by
  have hb1 := (Below.refl w.heap.size w).alloc (Nat.le_refl _) (.cells #[.int .i64 0, .int .i64 0, .string ⟨#[]⟩, .slice none 0 0] 35)
  have hbr := Blk.new w 35 #[.int .i64 0, .int .i64 0, .string ⟨#[]⟩, .slice none 0 0]
  have ct := Lib.hid (take_walk l A c _ hl hc hc2 ((hr.below hb1).more hb1.size))
  have HB1 := Lib.hid hb1
  have HBR := Lib.hid hbr
  cases hD : takeT l with
  | error k =>
    have hk := takeT_err hD
    have hv : Hid (oneT l = .error k) := by show _ = _; rw [oneT, hD]
    rw [hD] at ct
    have k0 : (k == 0) = false := by rw [beq_eq_false_iff_ne]; omega
    have k1 : (k != 0) = true := by rw [bne, k0]; rfl
    clear hD hb1 hbr hr hk
    go_enter Try.func48, Try.ntmps48
    go_wp2_with fail
    refine ct.out.mono ?_
    rintro _ w1 ⟨rfl, hbn⟩
    have hbq := (HBR.out.below hbn (by simp)).alloc (.cells #[.int .i64 0, .int .i64 0, .string ⟨#[]⟩, .slice none 0 0] 35)
    have hbw := below_next HB1.out hbn
    have HBW := Lib.hid (hbw.alloc hbw.size (.cells #[.int .i64 0, .int .i64 0, .string ⟨#[]⟩, .slice none 0 0] 35))
    clear hbn ct hbw
    go_wp2_with (first
      | (refine wpList_store_fresh w1 rfl 35 _ _ rfl _ #[.int .i64 0, .int .i64 0, .string ⟨#[]⟩, .slice none 0 0] _ rfl rfl rfl term_size (ones4 _ _ _ _ _ _) ?_)
      | (refine wpList_store_blk rfl 35 _ _ rfl w.heap.size _ #[.int .i64 0, .int .i64 0, .string ⟨#[]⟩, .slice none 0 0] _ rfl rfl hbq rfl term_size (ones4 _ _ _ _ _ _) ?_))
    refine bodyPost_ret (results_c_t Try.results48 _ _ w.heap.size _ _ _ _ rfl hbq.setRow) rfl ?_
    rw [hv.out]
    exact ⟨rfl, below_setRow HBW.out (Nat.le_refl _) _⟩
  | ok r =>
    obtain ⟨t, q⟩ := r
    rw [hD] at ct
    have HD := Lib.hid hD
    clear hD hb1 hbr hr
    by_cases hq : q < l.length
    · have hv : Hid (oneT l = .error 5) := by show _ = _; rw [oneT, HD.out]; simp only [if_pos hq]
      go_enter Try.func48, Try.ntmps48
      go_wp2_with fail
      refine ct.out.mono ?_
      rintro _ w1 ⟨kd, nm, s, A1, m, cp, rfl, htv, hql, hbn⟩
      have hbq := (HBR.out.below hbn (by simp)).alloc (.cells #[.int .i64 kd, .int .i64 nm, .string s, .slice A1 m cp] 35)
      have hbw := below_next HB1.out hbn
      have HBW := Lib.hid (hbw.alloc hbw.size (.cells #[.int .i64 kd, .int .i64 nm, .string s, .slice A1 m cp] 35))
      clear hbn ct hbw htv
      go_wp2_with (first
        | (refine wpList_store_fresh w1 rfl 35 _ _ rfl _ #[.int .i64 kd, .int .i64 nm, .string s, .slice A1 m cp] _ rfl rfl rfl term_size (ones4 _ _ _ _ _ _) ?_)
        | (refine wpList_store_blk rfl 35 _ _ rfl w.heap.size _ #[.int .i64 0, .int .i64 0, .string ⟨#[]⟩, .slice none 0 0] _ rfl rfl hbq rfl term_size (ones4 _ _ _ _ _ _) ?_))
      refine bodyPost_ret (results_c_t Try.results48 _ _ w.heap.size _ _ _ _ rfl hbq.setRow) rfl ?_
      rw [hv.out]
      exact ⟨rfl, below_setRow HBW.out (Nat.le_refl _) _⟩
    · have hv : Hid (oneT l = .ok t) := by show _ = _; rw [oneT, HD.out]; simp only [if_neg hq]
      go_enter Try.func48, Try.ntmps48
      go_wp2_with fail
      refine ct.out.mono ?_
      rintro _ w1 ⟨kd, nm, s, A1, m, cp, rfl, htv, hql, hbn⟩
      have hbq := (HBR.out.below hbn (by simp)).alloc (.cells #[.int .i64 kd, .int .i64 nm, .string s, .slice A1 m cp] 35)
      have hbt := Blk.new w1 35 #[.int .i64 kd, .int .i64 nm, .string s, .slice A1 m cp]
      have hbw := below_next HB1.out hbn
      have HBW := Lib.hid (hbw.alloc hbw.size (.cells #[.int .i64 kd, .int .i64 nm, .string s, .slice A1 m cp] 35))
      have hz1 : (w.alloc (.cells #[.int .i64 0, .int .i64 0, .string ⟨#[]⟩, .slice none 0 0] 35)).heap.size = w.heap.size + 1 := by simp
      rw [hz1] at htv
      have HTW := Lib.hid (htv.grown (only_alloc (only_refl w1 none) (.cells #[.int .i64 kd, .int .i64 nm, .string s, .slice A1 m cp] 35)) (fun q e => by cases e))
      clear hbn ct hbw htv
      go_wp2_with (first
        | (refine wpList_store_fresh w1 rfl 35 _ _ rfl _ #[.int .i64 kd, .int .i64 nm, .string s, .slice A1 m cp] _ rfl rfl rfl term_size (ones4 _ _ _ _ _ _) ?_)
        | (refine wpList_load_at rfl 35 _ rfl ⟨w1.heap.size, 0, none⟩ rfl [.int .i64 kd, .int .i64 nm, .string s, .slice A1 m cp] _ (blk_cells hbt) Try.underlying35 rfl term_size ?_)
        | (refine wpList_store_blk rfl 35 _ _ rfl w.heap.size _ #[.int .i64 kd, .int .i64 nm, .string s, .slice A1 m cp] _ rfl rfl hbq rfl term_size (ones4 _ _ _ _ _ _) ?_))
      refine bodyPost_ret (results_c_t Try.results48 _ _ w.heap.size _ _ _ _ rfl hbq.setRow) rfl ?_
      rw [hv.out]
      exact ⟨kd, nm, s, A1, m, cp, rfl, (HTW.out.grown (setRow_only _ w.heap.size _) (fun q e => by injection e with e; omega)).low (Nat.le_succ _), below_setRow HBW.out (Nat.le_refl _) _⟩
end Go.Proofs.Ytekpdkjkkglcjaa
