import Derived.Test.YtekpdkjkkglcjaaDf
set_option linter.unusedVariables false
set_option linter.unusedSimpArgs false
set_option maxRecDepth 20000
namespace Go.Proofs.Ytekpdkjkkglcjaa
open Go.RowKit
theorem ones4 (kd nm : Int) (s : ByteArray) (A : Option Addr) (m c : Nat) : (#[Value.int .i64 kd, .int .i64 nm, .string s, .slice A m c] : Array Value).all (·.oneCell') = true := by simp [Value.oneCell']
theorem blk_cells {w : World} {g : Nat} {t : TypeId} {c0 c1 c2 c3 : Value} (h : Blk w g t #[c0, c1, c2, c3]) : ∀ j u, [c0, c1, c2, c3][j]? = some u → w.cell? ((⟨g, 0, none⟩ : Addr).add j) = some u := by
  intro j u hu
  rw [add_zero_at, h.cell j]
  simpa using hu
theorem tm_leaf (w : World) (lo : Nat) (kind n : Int) (s : ByteArray) : TmV w lo (.mk kind n s []) [.int .i64 kind, .int .i64 n, .string s, .slice none 0 0] := by
  rw [TmV]
  exact ⟨none, 0, [], rfl, Nat.le_refl _, by omega, Reads.none_, fun h => absurd h (by simp), by rw [TmsV]⟩
theorem kids_node {w : World} {lo lo' : Nat} {kind : Int} {A : Option Addr} {c : Nat} {ks : List Tm} {vs : List (List Value)} (h1 : ks.length ≤ c) (h2 : c ≤ 9223372036854775807) (h3 : Reads w w.heap.size 4 A ks.length (List.flatten vs))
    (h4 : 0 < ks.length → ∀ ad, A = some ad → lo ≤ ad.block) (h5 : TmsV w lo ks vs) (hlo : lo' ≤ lo) : TmV w lo' (.mk kind 0 ⟨#[]⟩ ks) [.int .i64 kind, .int .i64 0, .string ⟨#[]⟩, .slice A ks.length c] := by
  rw [TmV]
  exact ⟨A, c, vs, rfl, h1, h2, h3, fun h ad e => Nat.le_trans hlo (h4 h ad e), h5.low hlo⟩
set_option maxHeartbeats 8000000 in
theorem term_succ (d : Nat) (hd16 : d ≤ 16) (hT : TermOk d) : TermOk (d + 1) := by
  intro l g p n deep w hdp hn h
  by_cases h64 : n = 64
  · rw [decT, if_pos (by omega)]
    exact term_big l g p n deep w h hn (.inl h64) (by omega) (by omega)
  · rw [decT, if_neg (by omega)]
    have hgl := h.lt
    have hn64 : n < 64 := by omega
    obtain ⟨c2, f2, c2'⟩ := rd_facts h
    have hr1 := Lib.hid ((h.count (by omega)).grown (only_alloc (only_refl _ none) (.cells #[.int .i64 0, .int .i64 0, .string ⟨#[]⟩, .slice none 0 0] 35)) (fun q e => by cases e))
    have hbx : Blk ((w.setCell ⟨g, 2, none⟩ (.int .i64 ((n : Int) + 1))).alloc (.cells #[.int .i64 0, .int .i64 0, .string ⟨#[]⟩, .slice none 0 0] 35)) w.heap.size 35 #[.int .i64 0, .int .i64 0, .string ⟨#[]⟩, .slice none 0 0] := by
      have := Blk.new (w.setCell ⟨g, 2, none⟩ (.int .i64 ((n : Int) + 1))) 35 #[.int .i64 0, .int .i64 0, .string ⟨#[]⟩, .slice none 0 0]
      simpa using this
    have HB := Lib.hid hbx
    have hgr : Hid (w.grownBy ((w.setCell ⟨g, 2, none⟩ (.int .i64 ((n : Int) + 1))).alloc (.cells #[.int .i64 0, .int .i64 0, .string ⟨#[]⟩, .slice none 0 0] 35)) (some g)) := only_alloc (only_setCell (only_refl _ _) (.inl rfl) _) _
    have n1 : (0 : Int) ≤ n := by omega
    have hw1 : True → wrap64 ((n : Int) + 1) = (n : Int) + 1 := fun _ => by unfold wrap64; omega
    have e1 : decide (64 < (n : Int) + 1) = false := by simp; omega
    have e2 : decide (16 < deep) = false := by simp; omega
    have hwd : True → wrap64 (deep + 1) = deep + 1 := fun _ => by unfold wrap64; omega
    have hdp1 : deep + 1 + (d : Int) = 17 := by omega
    clear h hbx hdp
    cases hp : l[p]? with
    | none =>
      have hle : l.length < p + 1 := by rw [List.getElem?_eq_none_iff] at hp; omega
      have ct := Lib.hid (take_short l g p (n + 1) 1 _ hr1.out (by omega) hle)
      clear hle hp
      go_enter Try.func67, Try.ntmps67
      go_wp2_with fail
      refine ct.out.mono ?_
      rintro _ w1 ⟨rfl, q, rfl⟩
      have HBq := HB.out.drewN q
      go_wp2_with (first | (refine wpList_load_at rfl 35 _ rfl ⟨w.heap.size, 0, none⟩ rfl [.int .i64 0, .int .i64 0, .string ⟨#[]⟩, .slice none 0 0] _ (blk_cells HBq) Try.underlying35 rfl term_size ?_) | (refine wpList_store_blk rfl 35 _ _ rfl w.heap.size _ #[.int .i64 0, .int .i64 0, .string ⟨#[]⟩, .slice none 0 0] _ rfl rfl HBq rfl term_size (ones4 _ _ _ _ _ _) ?_))
      refine bodyPost_ret (results_c_t Try.results67 _ _ w.heap.size _ _ _ _ rfl HBq.setRow) rfl ⟨0, 0, ⟨#[]⟩, none, 0, 0, rfl, only_setRow (only_drewN hgr.out q) (Nat.le_refl _) _⟩
    | some b =>
      obtain ⟨hpl, hpb⟩ := List.getElem?_eq_some_iff.1 hp
      have ct := Lib.hid (take_ok l g p (n + 1) 1 _ hr1.out (by omega) (by omega))
      obtain ⟨x, hx⟩ : ∃ x, b.toNat = x := ⟨_, rfl⟩
      have hx256 : x < 256 := by rw [← hx]; exact b.toNat_lt
      have hdt : (l.drop p).take 1 = [b] := by
        apply List.ext_getElem?
        intro i
        rw [List.getElem?_take]
        cases i with
        | zero => simp [hp]
        | succ i => simp
      rw [hdt] at ct
      have HX := Lib.hid hx
      simp only [hx]
      clear hdt hpb hp hx
      generalize hR : ite (x = 1) _ _ = R
      have HRR := Lib.hid hR
      clear hR
      go_enter Try.func67, Try.ntmps67
      go_wp2_with fail
      refine ct.out.mono ?_
      rintro _ w1 ⟨A, c, rfl, hmc, hrd, hrt, hg1⟩
      obtain ⟨bb, oo, x', rfl, hbb, hcb, _, HX'⟩ := hrd.byteN (k := 0) (by omega)
      obtain rfl : x' = x := by have := HX'.out; have := HX.out; simp at *; omega
      simp only [Nat.add_zero] at hcb
      have hb1 := HB.out.grown hg1 (fun e => by injection e with e; omega)
      have hbc : w1.cell? ⟨w.heap.size, 0, none⟩ = some (.int .i64 0) := hb1.cell 0
      have hbf := hb1.frozen 0
      have hb2 : Blk (w1.setCell ⟨w.heap.size, 0, none⟩ (.int .i64 (x' : Int))) w.heap.size 35 #[.int .i64 (x' : Int), .int .i64 0, .string ⟨#[]⟩, .slice none 0 0] := hb1.set_ 0 (.int .i64 (x' : Int))
      have hbc2 : (w1.setCell ⟨w.heap.size, 0, none⟩ (.int .i64 (x' : Int))).cell? ⟨w.heap.size, 0, none⟩ = some (.int .i64 (x' : Int)) := hb2.cell 0
      have hwx : True → wrap64 (x' : Int) = (x' : Int) := fun _ => by unfold wrap64; omega
      have HB2 := Lib.hid hb2
      have hgs := hg1.size
      simp at hgs
      have HRT := Lib.hid (hrt.grown (only_setCell (p := ⟨w.heap.size, 0, none⟩) (only_refl w1 (some w.heap.size)) (.inl rfl) (.int .i64 (x' : Int))) (fun q e => by injection e with e; omega))
      have HG := Lib.hid (only_setCell (p := ⟨w.heap.size, 0, none⟩) (only_trans hgr.out hg1) (.inr (Nat.le_refl _)) (.int .i64 (x' : Int)) : w.grownBy (w1.setCell ⟨w.heap.size, 0, none⟩ (.int .i64 (x' : Int))) (some g))
      have hsz2 : (w1.setCell ⟨w.heap.size, 0, none⟩ (.int .i64 (x' : Int))).heap.size = w1.heap.size := by simp [World.setCell]
      clear hrd hrt hg1 HB hgr hr1 ct hb1 hb2 HX' HX
      rcases show x' = 1 ∨ x' = 2 ∨ x' = 3 ∨ x' = 4 ∨ x' = 5 ∨ x' = 6 ∨ x' = 7 ∨ (x' ≠ 1 ∧ x' ≠ 2 ∧ x' ≠ 3 ∧ x' ≠ 4 ∧ x' ≠ 5 ∧ x' ≠ 6 ∧ x' ≠ 7) by omega with hc | hc | hc | hc | hc | hc | hc | hc
      · have y1 : ((x' : Int) == 1) = true := by rw [beq_iff_eq]; omega
        have y2 : ((x' : Int) == 2) = false := by rw [beq_eq_false_iff_ne]; omega
        have y3 : ((x' : Int) == 3) = false := by rw [beq_eq_false_iff_ne]; omega
        have y4 : ((x' : Int) == 4) = false := by rw [beq_eq_false_iff_ne]; omega
        have y5 : ((x' : Int) == 5) = false := by rw [beq_eq_false_iff_ne]; omega
        have y6 : ((x' : Int) == 6) = false := by rw [beq_eq_false_iff_ne]; omega
        have y7 : ((x' : Int) == 7) = false := by rw [beq_eq_false_iff_ne]; omega
        have HXV := Lib.hid (show (x' : Int) = 1 by omega)
        have HC := Lib.hid hc
        clear hc
        have cx := Lib.hid (atom_walk l g (p + 1) (n + 1) (w1.setCell ⟨w.heap.size, 0, none⟩ (.int .i64 (x' : Int))) HRT.out)
        cases hN : atomT l (p + 1) with
        | error e =>
          have HN := Lib.hid hN
          rw [hN] at cx
          clear hN
          go_wp2_with fail
          refine cx.out.mono ?_
          rintro _ w3 ⟨s, rfl, hg3⟩
          have hb3 := HB2.out.grown hg3 (fun e => by injection e with e; omega)
          have hbc3 : w3.cell? ⟨w.heap.size, 2, none⟩ = some (.string ⟨#[]⟩) := hb3.cell 2
          have hbf3 := hb3.frozen 2
          have HB4 : Blk (w3.setCell ⟨w.heap.size, 2, none⟩ (.string s)) w.heap.size 35 #[(.int .i64 (x' : Int)), .int .i64 0, .string s, .slice none 0 0] := hb3.set_ 2 (.string s)
          have HG4 := Lib.hid (only_setCell (p := ⟨w.heap.size, 2, none⟩) (only_trans HG.out hg3) (.inr (Nat.le_refl _)) (.string s) : w.grownBy (w3.setCell ⟨w.heap.size, 2, none⟩ (.string s)) (some g))
          clear hg3 cx hb3
          go_wp2_with (first | (refine wpList_load_at rfl 35 _ rfl ⟨w.heap.size, 0, none⟩ rfl [(.int .i64 (x' : Int)), .int .i64 0, .string s, .slice none 0 0] _ (blk_cells HB4) Try.underlying35 rfl term_size ?_) | (refine wpList_store_blk rfl 35 _ _ rfl w.heap.size _ #[(.int .i64 (x' : Int)), .int .i64 0, .string s, .slice none 0 0] _ rfl rfl HB4 rfl term_size (ones4 _ _ _ _ _ _) ?_))
          refine bodyPost_ret (results_c_t Try.results67 _ _ w.heap.size _ _ _ _ rfl HB4.setRow) rfl ?_
          rw [← HRR.out]
          rw [if_pos HC.out, HN.out]
          exact ⟨_, _, _, _, _, _, rfl, only_setRow HG4.out (Nat.le_refl _) _⟩
        | ok r =>
          have HN := Lib.hid hN
          rw [hN] at cx
          clear hN
          obtain ⟨s, q⟩ := r
          go_wp2_with fail
          refine cx.out.mono ?_
          rintro _ w3 ⟨rfl, hrt3, hg3⟩
          have hb3 := HB2.out.grown hg3 (fun e => by injection e with e; omega)
          have hbc3 : w3.cell? ⟨w.heap.size, 2, none⟩ = some (.string ⟨#[]⟩) := hb3.cell 2
          have hbf3 := hb3.frozen 2
          have HB4 : Blk (w3.setCell ⟨w.heap.size, 2, none⟩ (.string s)) w.heap.size 35 #[(.int .i64 (x' : Int)), .int .i64 0, .string s, .slice none 0 0] := hb3.set_ 2 (.string s)
          have HG4 := Lib.hid (only_setCell (p := ⟨w.heap.size, 2, none⟩) (only_trans HG.out hg3) (.inr (Nat.le_refl _)) (.string s) : w.grownBy (w3.setCell ⟨w.heap.size, 2, none⟩ (.string s)) (some g))
          have HR4 := Lib.hid (hrt3.grown (only_setCell (p := ⟨w.heap.size, 2, none⟩) (only_refl w3 (some w.heap.size)) (.inl rfl) (.string s)) (fun q e => by injection e with e; omega))
          clear hrt3
          clear hg3 cx hb3
          go_wp2_with (first | (refine wpList_load_at rfl 35 _ rfl ⟨w.heap.size, 0, none⟩ rfl [(.int .i64 (x' : Int)), .int .i64 0, .string s, .slice none 0 0] _ (blk_cells HB4) Try.underlying35 rfl term_size ?_) | (refine wpList_store_blk rfl 35 _ _ rfl w.heap.size _ #[(.int .i64 (x' : Int)), .int .i64 0, .string s, .slice none 0 0] _ rfl rfl HB4 rfl term_size (ones4 _ _ _ _ _ _) ?_))
          refine bodyPost_ret (results_c_t Try.results67 _ _ w.heap.size _ _ _ _ rfl HB4.setRow) rfl ?_
          rw [← HRR.out]
          rw [if_pos HC.out, HN.out]
          exact ⟨_, rfl, by rw [HXV.out]; exact tm_leaf _ _ _ _ _, HR4.out.grown (setRow_only _ _ _) (fun q e => by injection e with e; omega), by omega, only_setRow HG4.out (Nat.le_refl _) _⟩
      · have y1 : ((x' : Int) == 1) = false := by rw [beq_eq_false_iff_ne]; omega
        have y2 : ((x' : Int) == 2) = true := by rw [beq_iff_eq]; omega
        have y3 : ((x' : Int) == 3) = false := by rw [beq_eq_false_iff_ne]; omega
        have y4 : ((x' : Int) == 4) = false := by rw [beq_eq_false_iff_ne]; omega
        have y5 : ((x' : Int) == 5) = false := by rw [beq_eq_false_iff_ne]; omega
        have y6 : ((x' : Int) == 6) = false := by rw [beq_eq_false_iff_ne]; omega
        have y7 : ((x' : Int) == 7) = false := by rw [beq_eq_false_iff_ne]; omega
        have HXV := Lib.hid (show (x' : Int) = 2 by omega)
        have HC := Lib.hid hc
        clear hc
        have cx := Lib.hid (number_walk l g (p + 1) (n + 1) 4 1073741824 (w1.setCell ⟨w.heap.size, 0, none⟩ (.int .i64 (x' : Int))) HRT.out (by omega) (by omega))
        cases hN : numT l (p + 1) 4 1073741824 with
        | error e =>
          have HN := Lib.hid hN
          rw [hN] at cx
          clear hN
          go_wp2_with fail
          refine cx.out.mono ?_
          rintro _ w3 ⟨v, rfl, hg3⟩
          have hb3 := HB2.out.grown hg3 (fun e => by injection e with e; omega)
          have hbc3 : w3.cell? ⟨w.heap.size, 1, none⟩ = some (.int .i64 0) := hb3.cell 1
          have hbf3 := hb3.frozen 1
          have HB4 : Blk (w3.setCell ⟨w.heap.size, 1, none⟩ (.int .i64 v)) w.heap.size 35 #[(.int .i64 (x' : Int)), .int .i64 v, .string ⟨#[]⟩, .slice none 0 0] := hb3.set_ 1 (.int .i64 v)
          have HG4 := Lib.hid (only_setCell (p := ⟨w.heap.size, 1, none⟩) (only_trans HG.out hg3) (.inr (Nat.le_refl _)) (.int .i64 v) : w.grownBy (w3.setCell ⟨w.heap.size, 1, none⟩ (.int .i64 v)) (some g))
          clear hg3 cx hb3
          go_wp2_with (first | (refine wpList_load_at rfl 35 _ rfl ⟨w.heap.size, 0, none⟩ rfl [(.int .i64 (x' : Int)), .int .i64 v, .string ⟨#[]⟩, .slice none 0 0] _ (blk_cells HB4) Try.underlying35 rfl term_size ?_) | (refine wpList_store_blk rfl 35 _ _ rfl w.heap.size _ #[(.int .i64 (x' : Int)), .int .i64 v, .string ⟨#[]⟩, .slice none 0 0] _ rfl rfl HB4 rfl term_size (ones4 _ _ _ _ _ _) ?_))
          refine bodyPost_ret (results_c_t Try.results67 _ _ w.heap.size _ _ _ _ rfl HB4.setRow) rfl ?_
          rw [← HRR.out]
          rw [if_neg (by have := HC.out; omega), if_pos HC.out, HN.out]
          exact ⟨_, _, _, _, _, _, rfl, only_setRow HG4.out (Nat.le_refl _) _⟩
        | ok r =>
          have HN := Lib.hid hN
          rw [hN] at cx
          clear hN
          obtain ⟨m, q⟩ := r
          go_wp2_with fail
          refine cx.out.mono ?_
          rintro _ w3 ⟨rfl, hrt3, hg3⟩
          have hb3 := HB2.out.grown hg3 (fun e => by injection e with e; omega)
          have hbc3 : w3.cell? ⟨w.heap.size, 1, none⟩ = some (.int .i64 0) := hb3.cell 1
          have hbf3 := hb3.frozen 1
          have HB4 : Blk (w3.setCell ⟨w.heap.size, 1, none⟩ (.int .i64 (m : Int))) w.heap.size 35 #[(.int .i64 (x' : Int)), .int .i64 (m : Int), .string ⟨#[]⟩, .slice none 0 0] := hb3.set_ 1 (.int .i64 (m : Int))
          have HG4 := Lib.hid (only_setCell (p := ⟨w.heap.size, 1, none⟩) (only_trans HG.out hg3) (.inr (Nat.le_refl _)) (.int .i64 (m : Int)) : w.grownBy (w3.setCell ⟨w.heap.size, 1, none⟩ (.int .i64 (m : Int))) (some g))
          have HR4 := Lib.hid (hrt3.grown (only_setCell (p := ⟨w.heap.size, 1, none⟩) (only_refl w3 (some w.heap.size)) (.inl rfl) (.int .i64 (m : Int))) (fun q e => by injection e with e; omega))
          clear hrt3
          clear hg3 cx hb3
          go_wp2_with (first | (refine wpList_load_at rfl 35 _ rfl ⟨w.heap.size, 0, none⟩ rfl [(.int .i64 (x' : Int)), .int .i64 (m : Int), .string ⟨#[]⟩, .slice none 0 0] _ (blk_cells HB4) Try.underlying35 rfl term_size ?_) | (refine wpList_store_blk rfl 35 _ _ rfl w.heap.size _ #[(.int .i64 (x' : Int)), .int .i64 (m : Int), .string ⟨#[]⟩, .slice none 0 0] _ rfl rfl HB4 rfl term_size (ones4 _ _ _ _ _ _) ?_))
          refine bodyPost_ret (results_c_t Try.results67 _ _ w.heap.size _ _ _ _ rfl HB4.setRow) rfl ?_
          rw [← HRR.out]
          rw [if_neg (by have := HC.out; omega), if_pos HC.out, HN.out]
          exact ⟨_, rfl, by rw [HXV.out]; exact tm_leaf _ _ _ _ _, HR4.out.grown (setRow_only _ _ _) (fun q e => by injection e with e; omega), by omega, only_setRow HG4.out (Nat.le_refl _) _⟩
      · have y1 : ((x' : Int) == 1) = false := by rw [beq_eq_false_iff_ne]; omega
        have y2 : ((x' : Int) == 2) = false := by rw [beq_eq_false_iff_ne]; omega
        have y3 : ((x' : Int) == 3) = true := by rw [beq_iff_eq]; omega
        have y4 : ((x' : Int) == 4) = false := by rw [beq_eq_false_iff_ne]; omega
        have y5 : ((x' : Int) == 5) = false := by rw [beq_eq_false_iff_ne]; omega
        have y6 : ((x' : Int) == 6) = false := by rw [beq_eq_false_iff_ne]; omega
        have y7 : ((x' : Int) == 7) = false := by rw [beq_eq_false_iff_ne]; omega
        have HXV := Lib.hid (show (x' : Int) = 3 by omega)
        have HC := Lib.hid hc
        clear hc
        have cx := Lib.hid (kids_walk d hT l g (p + 1) (n + 1) 1 (deep + 1) (w1.setCell ⟨w.heap.size, 0, none⟩ (.int .i64 (x' : Int))) hdp1 (by omega) (by omega) HRT.out)
        cases hN : decK 1 d l (p + 1) (n + 1) with
        | error e =>
          have HN := Lib.hid hN
          rw [hN] at cx
          clear hN
          go_wp2_with fail
          refine cx.out.mono ?_
          rintro _ w3 ⟨AA, mm, cp, rfl, hg3⟩
          have hb3 := HB2.out.grown hg3 (fun e => by injection e with e; omega)
          have hbc3 : w3.cell? ⟨w.heap.size, 3, none⟩ = some (.slice none 0 0) := hb3.cell 3
          have hbf3 := hb3.frozen 3
          have HB4 : Blk (w3.setCell ⟨w.heap.size, 3, none⟩ (.slice AA mm cp)) w.heap.size 35 #[(.int .i64 (x' : Int)), .int .i64 0, .string ⟨#[]⟩, .slice AA mm cp] := hb3.set_ 3 (.slice AA mm cp)
          have HG4 := Lib.hid (only_setCell (p := ⟨w.heap.size, 3, none⟩) (only_trans HG.out hg3) (.inr (Nat.le_refl _)) (.slice AA mm cp) : w.grownBy (w3.setCell ⟨w.heap.size, 3, none⟩ (.slice AA mm cp)) (some g))
          clear hg3 cx hb3
          go_wp2_with (first | (refine wpList_load_at rfl 35 _ rfl ⟨w.heap.size, 0, none⟩ rfl [(.int .i64 (x' : Int)), .int .i64 0, .string ⟨#[]⟩, .slice AA mm cp] _ (blk_cells HB4) Try.underlying35 rfl term_size ?_) | (refine wpList_store_blk rfl 35 _ _ rfl w.heap.size _ #[(.int .i64 (x' : Int)), .int .i64 0, .string ⟨#[]⟩, .slice AA mm cp] _ rfl rfl HB4 rfl term_size (ones4 _ _ _ _ _ _) ?_))
          refine bodyPost_ret (results_c_t Try.results67 _ _ w.heap.size _ _ _ _ rfl HB4.setRow) rfl ?_
          rw [← HRR.out]
          rw [if_neg (by have := HC.out; omega), if_neg (by have := HC.out; omega), if_pos (by have := HC.out; omega), HN.out]
          exact ⟨_, _, _, _, _, _, rfl, only_setRow HG4.out (Nat.le_refl _) _⟩
        | ok r =>
          have HN := Lib.hid hN
          rw [hN] at cx
          clear hN
          obtain ⟨ks, q, n'⟩ := r
          go_wp2_with fail
          refine cx.out.mono ?_
          rintro _ w3 ⟨AA, cp, vs, rfl, hl3, hc3, hrd3, hlo3, hts3, hrt3, hn3, hg3⟩
          have hb3 := HB2.out.grown hg3 (fun e => by injection e with e; omega)
          have hbc3 : w3.cell? ⟨w.heap.size, 3, none⟩ = some (.slice none 0 0) := hb3.cell 3
          have hbf3 := hb3.frozen 3
          have HB4 : Blk (w3.setCell ⟨w.heap.size, 3, none⟩ (.slice AA ks.length cp)) w.heap.size 35 #[(.int .i64 (x' : Int)), .int .i64 0, .string ⟨#[]⟩, .slice AA ks.length cp] := hb3.set_ 3 (.slice AA ks.length cp)
          have HG4 := Lib.hid (only_setCell (p := ⟨w.heap.size, 3, none⟩) (only_trans HG.out hg3) (.inr (Nat.le_refl _)) (.slice AA ks.length cp) : w.grownBy (w3.setCell ⟨w.heap.size, 3, none⟩ (.slice AA ks.length cp)) (some g))
          have HR4 := Lib.hid (hrt3.grown (only_setCell (p := ⟨w.heap.size, 3, none⟩) (only_refl w3 (some w.heap.size)) (.inl rfl) (.slice AA ks.length cp)) (fun q e => by injection e with e; omega))
          have HK3 := Lib.hid (kids_node (kind := (x' : Int)) (lo' := w.heap.size + 1) hl3 hc3 hrd3 hlo3 hts3 (by rw [hsz2]; omega))
          clear hrt3 hrd3 hlo3 hts3
          clear hg3 cx hb3
          go_wp2_with (first | (refine wpList_load_at rfl 35 _ rfl ⟨w.heap.size, 0, none⟩ rfl [(.int .i64 (x' : Int)), .int .i64 0, .string ⟨#[]⟩, .slice AA ks.length cp] _ (blk_cells HB4) Try.underlying35 rfl term_size ?_) | (refine wpList_store_blk rfl 35 _ _ rfl w.heap.size _ #[(.int .i64 (x' : Int)), .int .i64 0, .string ⟨#[]⟩, .slice AA ks.length cp] _ rfl rfl HB4 rfl term_size (ones4 _ _ _ _ _ _) ?_))
          refine bodyPost_ret (results_c_t Try.results67 _ _ w.heap.size _ _ _ _ rfl HB4.setRow) rfl ?_
          rw [← HRR.out]
          rw [if_neg (by have := HC.out; omega), if_neg (by have := HC.out; omega), if_pos (by have := HC.out; omega), HN.out]
          exact ⟨_, rfl, ((HK3.out.grown (only_setCell (p := ⟨w.heap.size, 3, none⟩) (only_refl w3 (some w.heap.size)) (.inl rfl) _) (fun q e => by injection e with e; omega)).grown (setRow_only _ _ _) (fun q e => by injection e with e; omega)).low (Nat.le_succ _), HR4.out.grown (setRow_only _ _ _) (fun q e => by injection e with e; omega), hn3, only_setRow HG4.out (Nat.le_refl _) _⟩
      · have y1 : ((x' : Int) == 1) = false := by rw [beq_eq_false_iff_ne]; omega
        have y2 : ((x' : Int) == 2) = false := by rw [beq_eq_false_iff_ne]; omega
        have y3 : ((x' : Int) == 3) = false := by rw [beq_eq_false_iff_ne]; omega
        have y4 : ((x' : Int) == 4) = true := by rw [beq_iff_eq]; omega
        have y5 : ((x' : Int) == 5) = false := by rw [beq_eq_false_iff_ne]; omega
        have y6 : ((x' : Int) == 6) = false := by rw [beq_eq_false_iff_ne]; omega
        have y7 : ((x' : Int) == 7) = false := by rw [beq_eq_false_iff_ne]; omega
        have HXV := Lib.hid (show (x' : Int) = 4 by omega)
        have HC := Lib.hid hc
        clear hc
        have cx := Lib.hid (kids_walk d hT l g (p + 1) (n + 1) 1 (deep + 1) (w1.setCell ⟨w.heap.size, 0, none⟩ (.int .i64 (x' : Int))) hdp1 (by omega) (by omega) HRT.out)
        cases hN : decK 1 d l (p + 1) (n + 1) with
        | error e =>
          have HN := Lib.hid hN
          rw [hN] at cx
          clear hN
          go_wp2_with fail
          refine cx.out.mono ?_
          rintro _ w3 ⟨AA, mm, cp, rfl, hg3⟩
          have hb3 := HB2.out.grown hg3 (fun e => by injection e with e; omega)
          have hbc3 : w3.cell? ⟨w.heap.size, 3, none⟩ = some (.slice none 0 0) := hb3.cell 3
          have hbf3 := hb3.frozen 3
          have HB4 : Blk (w3.setCell ⟨w.heap.size, 3, none⟩ (.slice AA mm cp)) w.heap.size 35 #[(.int .i64 (x' : Int)), .int .i64 0, .string ⟨#[]⟩, .slice AA mm cp] := hb3.set_ 3 (.slice AA mm cp)
          have HG4 := Lib.hid (only_setCell (p := ⟨w.heap.size, 3, none⟩) (only_trans HG.out hg3) (.inr (Nat.le_refl _)) (.slice AA mm cp) : w.grownBy (w3.setCell ⟨w.heap.size, 3, none⟩ (.slice AA mm cp)) (some g))
          clear hg3 cx hb3
          go_wp2_with (first | (refine wpList_load_at rfl 35 _ rfl ⟨w.heap.size, 0, none⟩ rfl [(.int .i64 (x' : Int)), .int .i64 0, .string ⟨#[]⟩, .slice AA mm cp] _ (blk_cells HB4) Try.underlying35 rfl term_size ?_) | (refine wpList_store_blk rfl 35 _ _ rfl w.heap.size _ #[(.int .i64 (x' : Int)), .int .i64 0, .string ⟨#[]⟩, .slice AA mm cp] _ rfl rfl HB4 rfl term_size (ones4 _ _ _ _ _ _) ?_))
          refine bodyPost_ret (results_c_t Try.results67 _ _ w.heap.size _ _ _ _ rfl HB4.setRow) rfl ?_
          rw [← HRR.out]
          rw [if_neg (by have := HC.out; omega), if_neg (by have := HC.out; omega), if_pos (by have := HC.out; omega), HN.out]
          exact ⟨_, _, _, _, _, _, rfl, only_setRow HG4.out (Nat.le_refl _) _⟩
        | ok r =>
          have HN := Lib.hid hN
          rw [hN] at cx
          clear hN
          obtain ⟨ks, q, n'⟩ := r
          go_wp2_with fail
          refine cx.out.mono ?_
          rintro _ w3 ⟨AA, cp, vs, rfl, hl3, hc3, hrd3, hlo3, hts3, hrt3, hn3, hg3⟩
          have hb3 := HB2.out.grown hg3 (fun e => by injection e with e; omega)
          have hbc3 : w3.cell? ⟨w.heap.size, 3, none⟩ = some (.slice none 0 0) := hb3.cell 3
          have hbf3 := hb3.frozen 3
          have HB4 : Blk (w3.setCell ⟨w.heap.size, 3, none⟩ (.slice AA ks.length cp)) w.heap.size 35 #[(.int .i64 (x' : Int)), .int .i64 0, .string ⟨#[]⟩, .slice AA ks.length cp] := hb3.set_ 3 (.slice AA ks.length cp)
          have HG4 := Lib.hid (only_setCell (p := ⟨w.heap.size, 3, none⟩) (only_trans HG.out hg3) (.inr (Nat.le_refl _)) (.slice AA ks.length cp) : w.grownBy (w3.setCell ⟨w.heap.size, 3, none⟩ (.slice AA ks.length cp)) (some g))
          have HR4 := Lib.hid (hrt3.grown (only_setCell (p := ⟨w.heap.size, 3, none⟩) (only_refl w3 (some w.heap.size)) (.inl rfl) (.slice AA ks.length cp)) (fun q e => by injection e with e; omega))
          have HK3 := Lib.hid (kids_node (kind := (x' : Int)) (lo' := w.heap.size + 1) hl3 hc3 hrd3 hlo3 hts3 (by rw [hsz2]; omega))
          clear hrt3 hrd3 hlo3 hts3
          clear hg3 cx hb3
          go_wp2_with (first | (refine wpList_load_at rfl 35 _ rfl ⟨w.heap.size, 0, none⟩ rfl [(.int .i64 (x' : Int)), .int .i64 0, .string ⟨#[]⟩, .slice AA ks.length cp] _ (blk_cells HB4) Try.underlying35 rfl term_size ?_) | (refine wpList_store_blk rfl 35 _ _ rfl w.heap.size _ #[(.int .i64 (x' : Int)), .int .i64 0, .string ⟨#[]⟩, .slice AA ks.length cp] _ rfl rfl HB4 rfl term_size (ones4 _ _ _ _ _ _) ?_))
          refine bodyPost_ret (results_c_t Try.results67 _ _ w.heap.size _ _ _ _ rfl HB4.setRow) rfl ?_
          rw [← HRR.out]
          rw [if_neg (by have := HC.out; omega), if_neg (by have := HC.out; omega), if_pos (by have := HC.out; omega), HN.out]
          exact ⟨_, rfl, ((HK3.out.grown (only_setCell (p := ⟨w.heap.size, 3, none⟩) (only_refl w3 (some w.heap.size)) (.inl rfl) _) (fun q e => by injection e with e; omega)).grown (setRow_only _ _ _) (fun q e => by injection e with e; omega)).low (Nat.le_succ _), HR4.out.grown (setRow_only _ _ _) (fun q e => by injection e with e; omega), hn3, only_setRow HG4.out (Nat.le_refl _) _⟩
      · have y1 : ((x' : Int) == 1) = false := by rw [beq_eq_false_iff_ne]; omega
        have y2 : ((x' : Int) == 2) = false := by rw [beq_eq_false_iff_ne]; omega
        have y3 : ((x' : Int) == 3) = false := by rw [beq_eq_false_iff_ne]; omega
        have y4 : ((x' : Int) == 4) = false := by rw [beq_eq_false_iff_ne]; omega
        have y5 : ((x' : Int) == 5) = true := by rw [beq_iff_eq]; omega
        have y6 : ((x' : Int) == 6) = false := by rw [beq_eq_false_iff_ne]; omega
        have y7 : ((x' : Int) == 7) = false := by rw [beq_eq_false_iff_ne]; omega
        have HXV := Lib.hid (show (x' : Int) = 5 by omega)
        have HC := Lib.hid hc
        clear hc
        have cx := Lib.hid (kids_walk d hT l g (p + 1) (n + 1) 2 (deep + 1) (w1.setCell ⟨w.heap.size, 0, none⟩ (.int .i64 (x' : Int))) hdp1 (by omega) (by omega) HRT.out)
        cases hN : decK 2 d l (p + 1) (n + 1) with
        | error e =>
          have HN := Lib.hid hN
          rw [hN] at cx
          clear hN
          go_wp2_with fail
          refine cx.out.mono ?_
          rintro _ w3 ⟨AA, mm, cp, rfl, hg3⟩
          have hb3 := HB2.out.grown hg3 (fun e => by injection e with e; omega)
          have hbc3 : w3.cell? ⟨w.heap.size, 3, none⟩ = some (.slice none 0 0) := hb3.cell 3
          have hbf3 := hb3.frozen 3
          have HB4 : Blk (w3.setCell ⟨w.heap.size, 3, none⟩ (.slice AA mm cp)) w.heap.size 35 #[(.int .i64 (x' : Int)), .int .i64 0, .string ⟨#[]⟩, .slice AA mm cp] := hb3.set_ 3 (.slice AA mm cp)
          have HG4 := Lib.hid (only_setCell (p := ⟨w.heap.size, 3, none⟩) (only_trans HG.out hg3) (.inr (Nat.le_refl _)) (.slice AA mm cp) : w.grownBy (w3.setCell ⟨w.heap.size, 3, none⟩ (.slice AA mm cp)) (some g))
          clear hg3 cx hb3
          go_wp2_with (first | (refine wpList_load_at rfl 35 _ rfl ⟨w.heap.size, 0, none⟩ rfl [(.int .i64 (x' : Int)), .int .i64 0, .string ⟨#[]⟩, .slice AA mm cp] _ (blk_cells HB4) Try.underlying35 rfl term_size ?_) | (refine wpList_store_blk rfl 35 _ _ rfl w.heap.size _ #[(.int .i64 (x' : Int)), .int .i64 0, .string ⟨#[]⟩, .slice AA mm cp] _ rfl rfl HB4 rfl term_size (ones4 _ _ _ _ _ _) ?_))
          refine bodyPost_ret (results_c_t Try.results67 _ _ w.heap.size _ _ _ _ rfl HB4.setRow) rfl ?_
          rw [← HRR.out]
          rw [if_neg (by have := HC.out; omega), if_neg (by have := HC.out; omega), if_neg (by have := HC.out; omega), if_pos (by have := HC.out; omega), HN.out]
          exact ⟨_, _, _, _, _, _, rfl, only_setRow HG4.out (Nat.le_refl _) _⟩
        | ok r =>
          have HN := Lib.hid hN
          rw [hN] at cx
          clear hN
          obtain ⟨ks, q, n'⟩ := r
          go_wp2_with fail
          refine cx.out.mono ?_
          rintro _ w3 ⟨AA, cp, vs, rfl, hl3, hc3, hrd3, hlo3, hts3, hrt3, hn3, hg3⟩
          have hb3 := HB2.out.grown hg3 (fun e => by injection e with e; omega)
          have hbc3 : w3.cell? ⟨w.heap.size, 3, none⟩ = some (.slice none 0 0) := hb3.cell 3
          have hbf3 := hb3.frozen 3
          have HB4 : Blk (w3.setCell ⟨w.heap.size, 3, none⟩ (.slice AA ks.length cp)) w.heap.size 35 #[(.int .i64 (x' : Int)), .int .i64 0, .string ⟨#[]⟩, .slice AA ks.length cp] := hb3.set_ 3 (.slice AA ks.length cp)
          have HG4 := Lib.hid (only_setCell (p := ⟨w.heap.size, 3, none⟩) (only_trans HG.out hg3) (.inr (Nat.le_refl _)) (.slice AA ks.length cp) : w.grownBy (w3.setCell ⟨w.heap.size, 3, none⟩ (.slice AA ks.length cp)) (some g))
          have HR4 := Lib.hid (hrt3.grown (only_setCell (p := ⟨w.heap.size, 3, none⟩) (only_refl w3 (some w.heap.size)) (.inl rfl) (.slice AA ks.length cp)) (fun q e => by injection e with e; omega))
          have HK3 := Lib.hid (kids_node (kind := (x' : Int)) (lo' := w.heap.size + 1) hl3 hc3 hrd3 hlo3 hts3 (by rw [hsz2]; omega))
          clear hrt3 hrd3 hlo3 hts3
          clear hg3 cx hb3
          go_wp2_with (first | (refine wpList_load_at rfl 35 _ rfl ⟨w.heap.size, 0, none⟩ rfl [(.int .i64 (x' : Int)), .int .i64 0, .string ⟨#[]⟩, .slice AA ks.length cp] _ (blk_cells HB4) Try.underlying35 rfl term_size ?_) | (refine wpList_store_blk rfl 35 _ _ rfl w.heap.size _ #[(.int .i64 (x' : Int)), .int .i64 0, .string ⟨#[]⟩, .slice AA ks.length cp] _ rfl rfl HB4 rfl term_size (ones4 _ _ _ _ _ _) ?_))
          refine bodyPost_ret (results_c_t Try.results67 _ _ w.heap.size _ _ _ _ rfl HB4.setRow) rfl ?_
          rw [← HRR.out]
          rw [if_neg (by have := HC.out; omega), if_neg (by have := HC.out; omega), if_neg (by have := HC.out; omega), if_pos (by have := HC.out; omega), HN.out]
          exact ⟨_, rfl, ((HK3.out.grown (only_setCell (p := ⟨w.heap.size, 3, none⟩) (only_refl w3 (some w.heap.size)) (.inl rfl) _) (fun q e => by injection e with e; omega)).grown (setRow_only _ _ _) (fun q e => by injection e with e; omega)).low (Nat.le_succ _), HR4.out.grown (setRow_only _ _ _) (fun q e => by injection e with e; omega), hn3, only_setRow HG4.out (Nat.le_refl _) _⟩
      · have y1 : ((x' : Int) == 1) = false := by rw [beq_eq_false_iff_ne]; omega
        have y2 : ((x' : Int) == 2) = false := by rw [beq_eq_false_iff_ne]; omega
        have y3 : ((x' : Int) == 3) = false := by rw [beq_eq_false_iff_ne]; omega
        have y4 : ((x' : Int) == 4) = false := by rw [beq_eq_false_iff_ne]; omega
        have y5 : ((x' : Int) == 5) = false := by rw [beq_eq_false_iff_ne]; omega
        have y6 : ((x' : Int) == 6) = true := by rw [beq_iff_eq]; omega
        have y7 : ((x' : Int) == 7) = false := by rw [beq_eq_false_iff_ne]; omega
        have HXV := Lib.hid (show (x' : Int) = 6 by omega)
        have HC := Lib.hid hc
        clear hc
        have cx := Lib.hid (kids_walk d hT l g (p + 1) (n + 1) 2 (deep + 1) (w1.setCell ⟨w.heap.size, 0, none⟩ (.int .i64 (x' : Int))) hdp1 (by omega) (by omega) HRT.out)
        cases hN : decK 2 d l (p + 1) (n + 1) with
        | error e =>
          have HN := Lib.hid hN
          rw [hN] at cx
          clear hN
          go_wp2_with fail
          refine cx.out.mono ?_
          rintro _ w3 ⟨AA, mm, cp, rfl, hg3⟩
          have hb3 := HB2.out.grown hg3 (fun e => by injection e with e; omega)
          have hbc3 : w3.cell? ⟨w.heap.size, 3, none⟩ = some (.slice none 0 0) := hb3.cell 3
          have hbf3 := hb3.frozen 3
          have HB4 : Blk (w3.setCell ⟨w.heap.size, 3, none⟩ (.slice AA mm cp)) w.heap.size 35 #[(.int .i64 (x' : Int)), .int .i64 0, .string ⟨#[]⟩, .slice AA mm cp] := hb3.set_ 3 (.slice AA mm cp)
          have HG4 := Lib.hid (only_setCell (p := ⟨w.heap.size, 3, none⟩) (only_trans HG.out hg3) (.inr (Nat.le_refl _)) (.slice AA mm cp) : w.grownBy (w3.setCell ⟨w.heap.size, 3, none⟩ (.slice AA mm cp)) (some g))
          clear hg3 cx hb3
          go_wp2_with (first | (refine wpList_load_at rfl 35 _ rfl ⟨w.heap.size, 0, none⟩ rfl [(.int .i64 (x' : Int)), .int .i64 0, .string ⟨#[]⟩, .slice AA mm cp] _ (blk_cells HB4) Try.underlying35 rfl term_size ?_) | (refine wpList_store_blk rfl 35 _ _ rfl w.heap.size _ #[(.int .i64 (x' : Int)), .int .i64 0, .string ⟨#[]⟩, .slice AA mm cp] _ rfl rfl HB4 rfl term_size (ones4 _ _ _ _ _ _) ?_))
          refine bodyPost_ret (results_c_t Try.results67 _ _ w.heap.size _ _ _ _ rfl HB4.setRow) rfl ?_
          rw [← HRR.out]
          rw [if_neg (by have := HC.out; omega), if_neg (by have := HC.out; omega), if_neg (by have := HC.out; omega), if_pos (by have := HC.out; omega), HN.out]
          exact ⟨_, _, _, _, _, _, rfl, only_setRow HG4.out (Nat.le_refl _) _⟩
        | ok r =>
          have HN := Lib.hid hN
          rw [hN] at cx
          clear hN
          obtain ⟨ks, q, n'⟩ := r
          go_wp2_with fail
          refine cx.out.mono ?_
          rintro _ w3 ⟨AA, cp, vs, rfl, hl3, hc3, hrd3, hlo3, hts3, hrt3, hn3, hg3⟩
          have hb3 := HB2.out.grown hg3 (fun e => by injection e with e; omega)
          have hbc3 : w3.cell? ⟨w.heap.size, 3, none⟩ = some (.slice none 0 0) := hb3.cell 3
          have hbf3 := hb3.frozen 3
          have HB4 : Blk (w3.setCell ⟨w.heap.size, 3, none⟩ (.slice AA ks.length cp)) w.heap.size 35 #[(.int .i64 (x' : Int)), .int .i64 0, .string ⟨#[]⟩, .slice AA ks.length cp] := hb3.set_ 3 (.slice AA ks.length cp)
          have HG4 := Lib.hid (only_setCell (p := ⟨w.heap.size, 3, none⟩) (only_trans HG.out hg3) (.inr (Nat.le_refl _)) (.slice AA ks.length cp) : w.grownBy (w3.setCell ⟨w.heap.size, 3, none⟩ (.slice AA ks.length cp)) (some g))
          have HR4 := Lib.hid (hrt3.grown (only_setCell (p := ⟨w.heap.size, 3, none⟩) (only_refl w3 (some w.heap.size)) (.inl rfl) (.slice AA ks.length cp)) (fun q e => by injection e with e; omega))
          have HK3 := Lib.hid (kids_node (kind := (x' : Int)) (lo' := w.heap.size + 1) hl3 hc3 hrd3 hlo3 hts3 (by rw [hsz2]; omega))
          clear hrt3 hrd3 hlo3 hts3
          clear hg3 cx hb3
          go_wp2_with (first | (refine wpList_load_at rfl 35 _ rfl ⟨w.heap.size, 0, none⟩ rfl [(.int .i64 (x' : Int)), .int .i64 0, .string ⟨#[]⟩, .slice AA ks.length cp] _ (blk_cells HB4) Try.underlying35 rfl term_size ?_) | (refine wpList_store_blk rfl 35 _ _ rfl w.heap.size _ #[(.int .i64 (x' : Int)), .int .i64 0, .string ⟨#[]⟩, .slice AA ks.length cp] _ rfl rfl HB4 rfl term_size (ones4 _ _ _ _ _ _) ?_))
          refine bodyPost_ret (results_c_t Try.results67 _ _ w.heap.size _ _ _ _ rfl HB4.setRow) rfl ?_
          rw [← HRR.out]
          rw [if_neg (by have := HC.out; omega), if_neg (by have := HC.out; omega), if_neg (by have := HC.out; omega), if_pos (by have := HC.out; omega), HN.out]
          exact ⟨_, rfl, ((HK3.out.grown (only_setCell (p := ⟨w.heap.size, 3, none⟩) (only_refl w3 (some w.heap.size)) (.inl rfl) _) (fun q e => by injection e with e; omega)).grown (setRow_only _ _ _) (fun q e => by injection e with e; omega)).low (Nat.le_succ _), HR4.out.grown (setRow_only _ _ _) (fun q e => by injection e with e; omega), hn3, only_setRow HG4.out (Nat.le_refl _) _⟩
      · have y1 : ((x' : Int) == 1) = false := by rw [beq_eq_false_iff_ne]; omega
        have y2 : ((x' : Int) == 2) = false := by rw [beq_eq_false_iff_ne]; omega
        have y3 : ((x' : Int) == 3) = false := by rw [beq_eq_false_iff_ne]; omega
        have y4 : ((x' : Int) == 4) = false := by rw [beq_eq_false_iff_ne]; omega
        have y5 : ((x' : Int) == 5) = false := by rw [beq_eq_false_iff_ne]; omega
        have y6 : ((x' : Int) == 6) = false := by rw [beq_eq_false_iff_ne]; omega
        have y7 : ((x' : Int) == 7) = true := by rw [beq_iff_eq]; omega
        have HXV := Lib.hid (show (x' : Int) = 7 by omega)
        have HC := Lib.hid hc
        clear hc
        have cx := Lib.hid (kids_walk d hT l g (p + 1) (n + 1) 2 (deep + 1) (w1.setCell ⟨w.heap.size, 0, none⟩ (.int .i64 (x' : Int))) hdp1 (by omega) (by omega) HRT.out)
        cases hN : decK 2 d l (p + 1) (n + 1) with
        | error e =>
          have HN := Lib.hid hN
          rw [hN] at cx
          clear hN
          go_wp2_with fail
          refine cx.out.mono ?_
          rintro _ w3 ⟨AA, mm, cp, rfl, hg3⟩
          have hb3 := HB2.out.grown hg3 (fun e => by injection e with e; omega)
          have hbc3 : w3.cell? ⟨w.heap.size, 3, none⟩ = some (.slice none 0 0) := hb3.cell 3
          have hbf3 := hb3.frozen 3
          have HB4 : Blk (w3.setCell ⟨w.heap.size, 3, none⟩ (.slice AA mm cp)) w.heap.size 35 #[(.int .i64 (x' : Int)), .int .i64 0, .string ⟨#[]⟩, .slice AA mm cp] := hb3.set_ 3 (.slice AA mm cp)
          have HG4 := Lib.hid (only_setCell (p := ⟨w.heap.size, 3, none⟩) (only_trans HG.out hg3) (.inr (Nat.le_refl _)) (.slice AA mm cp) : w.grownBy (w3.setCell ⟨w.heap.size, 3, none⟩ (.slice AA mm cp)) (some g))
          clear hg3 cx hb3
          go_wp2_with (first | (refine wpList_load_at rfl 35 _ rfl ⟨w.heap.size, 0, none⟩ rfl [(.int .i64 (x' : Int)), .int .i64 0, .string ⟨#[]⟩, .slice AA mm cp] _ (blk_cells HB4) Try.underlying35 rfl term_size ?_) | (refine wpList_store_blk rfl 35 _ _ rfl w.heap.size _ #[(.int .i64 (x' : Int)), .int .i64 0, .string ⟨#[]⟩, .slice AA mm cp] _ rfl rfl HB4 rfl term_size (ones4 _ _ _ _ _ _) ?_))
          refine bodyPost_ret (results_c_t Try.results67 _ _ w.heap.size _ _ _ _ rfl HB4.setRow) rfl ?_
          rw [← HRR.out]
          rw [if_neg (by have := HC.out; omega), if_neg (by have := HC.out; omega), if_neg (by have := HC.out; omega), if_pos (by have := HC.out; omega), HN.out]
          exact ⟨_, _, _, _, _, _, rfl, only_setRow HG4.out (Nat.le_refl _) _⟩
        | ok r =>
          have HN := Lib.hid hN
          rw [hN] at cx
          clear hN
          obtain ⟨ks, q, n'⟩ := r
          go_wp2_with fail
          refine cx.out.mono ?_
          rintro _ w3 ⟨AA, cp, vs, rfl, hl3, hc3, hrd3, hlo3, hts3, hrt3, hn3, hg3⟩
          have hb3 := HB2.out.grown hg3 (fun e => by injection e with e; omega)
          have hbc3 : w3.cell? ⟨w.heap.size, 3, none⟩ = some (.slice none 0 0) := hb3.cell 3
          have hbf3 := hb3.frozen 3
          have HB4 : Blk (w3.setCell ⟨w.heap.size, 3, none⟩ (.slice AA ks.length cp)) w.heap.size 35 #[(.int .i64 (x' : Int)), .int .i64 0, .string ⟨#[]⟩, .slice AA ks.length cp] := hb3.set_ 3 (.slice AA ks.length cp)
          have HG4 := Lib.hid (only_setCell (p := ⟨w.heap.size, 3, none⟩) (only_trans HG.out hg3) (.inr (Nat.le_refl _)) (.slice AA ks.length cp) : w.grownBy (w3.setCell ⟨w.heap.size, 3, none⟩ (.slice AA ks.length cp)) (some g))
          have HR4 := Lib.hid (hrt3.grown (only_setCell (p := ⟨w.heap.size, 3, none⟩) (only_refl w3 (some w.heap.size)) (.inl rfl) (.slice AA ks.length cp)) (fun q e => by injection e with e; omega))
          have HK3 := Lib.hid (kids_node (kind := (x' : Int)) (lo' := w.heap.size + 1) hl3 hc3 hrd3 hlo3 hts3 (by rw [hsz2]; omega))
          clear hrt3 hrd3 hlo3 hts3
          clear hg3 cx hb3
          go_wp2_with (first | (refine wpList_load_at rfl 35 _ rfl ⟨w.heap.size, 0, none⟩ rfl [(.int .i64 (x' : Int)), .int .i64 0, .string ⟨#[]⟩, .slice AA ks.length cp] _ (blk_cells HB4) Try.underlying35 rfl term_size ?_) | (refine wpList_store_blk rfl 35 _ _ rfl w.heap.size _ #[(.int .i64 (x' : Int)), .int .i64 0, .string ⟨#[]⟩, .slice AA ks.length cp] _ rfl rfl HB4 rfl term_size (ones4 _ _ _ _ _ _) ?_))
          refine bodyPost_ret (results_c_t Try.results67 _ _ w.heap.size _ _ _ _ rfl HB4.setRow) rfl ?_
          rw [← HRR.out]
          rw [if_neg (by have := HC.out; omega), if_neg (by have := HC.out; omega), if_neg (by have := HC.out; omega), if_pos (by have := HC.out; omega), HN.out]
          exact ⟨_, rfl, ((HK3.out.grown (only_setCell (p := ⟨w.heap.size, 3, none⟩) (only_refl w3 (some w.heap.size)) (.inl rfl) _) (fun q e => by injection e with e; omega)).grown (setRow_only _ _ _) (fun q e => by injection e with e; omega)).low (Nat.le_succ _), HR4.out.grown (setRow_only _ _ _) (fun q e => by injection e with e; omega), hn3, only_setRow HG4.out (Nat.le_refl _) _⟩
      · have y1 : ((x' : Int) == 1) = false := by rw [beq_eq_false_iff_ne]; omega
        have y2 : ((x' : Int) == 2) = false := by rw [beq_eq_false_iff_ne]; omega
        have y3 : ((x' : Int) == 3) = false := by rw [beq_eq_false_iff_ne]; omega
        have y4 : ((x' : Int) == 4) = false := by rw [beq_eq_false_iff_ne]; omega
        have y5 : ((x' : Int) == 5) = false := by rw [beq_eq_false_iff_ne]; omega
        have y6 : ((x' : Int) == 6) = false := by rw [beq_eq_false_iff_ne]; omega
        have y7 : ((x' : Int) == 7) = false := by rw [beq_eq_false_iff_ne]; omega
        have HV : Hid (R = .error 2) := by show _ = _; rw [← HRR.out, if_neg (by omega), if_neg (by omega), if_neg (by omega), if_neg (by omega)]
        have HB4 := HB2.out
        clear hc HRR
        go_wp2_with (first | (refine wpList_load_at rfl 35 _ rfl ⟨w.heap.size, 0, none⟩ rfl [(.int .i64 (x' : Int)), .int .i64 0, .string ⟨#[]⟩, .slice none 0 0] _ (blk_cells HB4) Try.underlying35 rfl term_size ?_) | (refine wpList_store_blk rfl 35 _ _ rfl w.heap.size _ #[(.int .i64 (x' : Int)), .int .i64 0, .string ⟨#[]⟩, .slice none 0 0] _ rfl rfl HB4 rfl term_size (ones4 _ _ _ _ _ _) ?_))
        refine bodyPost_ret (results_c_t Try.results67 _ _ w.heap.size _ _ _ _ rfl HB4.setRow) rfl ?_
        rw [HV.out]
        exact ⟨_, _, _, _, _, _, rfl, only_setRow HG.out (Nat.le_refl _) _⟩
theorem term_all : ∀ d, d ≤ 17 → TermOk d
  | 0, _ => fun l g p n deep w hdp hn h => by
    rw [decT]
    exact term_big l g p n deep w h hn (.inr (by omega)) (by omega) (by omega)
  | d + 1, hd => term_succ d (by omega) (term_all d (by omega))
end Go.Proofs.Ytekpdkjkkglcjaa
