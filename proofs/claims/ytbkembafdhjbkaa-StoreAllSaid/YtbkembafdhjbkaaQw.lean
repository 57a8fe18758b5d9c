import Derived.Test.YtbkembafdhjbkaaQv
import Derived.Test.YtbkembafdhjbkaaQr
import Derived.Deep.DeepCutAuto
import Derived.Deep.CutRange
import Derived.Deep.CutBlock
import Derived.BigGuard
set_option linter.unusedVariables false
namespace Go.Proofs.Ytbkembafdhjbkaa
open Go.RowKit
/-- what stays true as long as what was there stays -/
def Keeps (W : World) (P : World → Prop) : Prop := ∀ W', Below W.heap.size W W' → P W'
theorem Keeps.next {W W1 : World} {P Q : World → Prop} (h : Keeps W P) (hb : Below W.heap.size W W1) (hq : Keeps W1 Q) : Keeps W1 (fun X => P X ∧ Q X) := fun W' hb' => ⟨h W' (below_next hb hb'), hq W' hb'⟩
theorem Keeps.on {W W1 : World} {P : World → Prop} (h : Keeps W P) (hb : Below W.heap.size W W1) : Keeps W1 P := fun W' hb' => h W' (below_next hb hb')
theorem Keeps.now {W : World} {P : World → Prop} (h : Keeps W P) : P W := h W (Below.refl _ _)
theorem RecsAt.keeps {W : World} {A : Option Addr} {c : Nat} {rs : List Rc} (h : RecsAt W A c rs) : Keeps W (fun X => RecsAt X A c rs) := fun W' hb => h.below hb
theorem Blk.keeps {W : World} {g : Nat} {t : TypeId} {cs : Array Value} (h : Blk W g t cs) : Keeps W (fun X => Blk X g t cs) := fun W' hb => h.below hb h.lt
theorem below_keeps {w W : World} (h : Below w.heap.size w W) : Keeps W (fun X => Below w.heap.size w X) := fun W' hb => below_next h hb
theorem same_self (xs : List Rc) (A B : Option Addr) (c d : Nat) (w : World) (hr : RecsAt w A c xs) (hs : RecsAt w B d xs) :
    Calls Try.prog 14 #[.slice A xs.length c, .slice B xs.length d] w fun e w' => e = .returned (.bool true) ∧ Below w.heap.size w w' := by
  refine (same_walk xs xs A B c d w hr hs).mono ?_
  rintro _ _ ⟨rfl, n, rfl⟩
  exact ⟨by rw [decide_eq_true rfl], below_drewN (Below.refl _ _) n⟩
theorem few19_walk (A : Option Addr) (n c : Nat) (b : Bool) (hbb : decide (n ≤ 100) = b) (w : World) : Calls Try.prog 15 #[.slice A n c] w fun e w' => e = .returned (.bool b) ∧ w = w' := by
  have h2 : Hid (decide ((n : Int) ≤ 100) = b) := by show _ = _; rw [← hbb]; congr 1; simp; omega
  clear hbb
  go_enter Try.func15, Try.ntmps15
  go_wp2_with fail
  go_ret
  exact ⟨by rw [← h2.out]; simp, rfl⟩
/-- the state of the law of all -/
def SA (w : World) (g gl : Nat) (zs : List Int) (k : Nat) (vb : Value) (rb : List Rc) (cells : Array Value) (r : Rc) (W : World) : Prop :=
  TapeAt W g zs k ∧ W.ownsRow (g + 1) 32 15 vb rb.length (recCells rb) ∧ Blk W gl 24 cells ∧ g < gl ∧ Below w.heap.size w W ∧ w.heap.size < g ∧ Blk W w.heap.size 32 r.arr
section
variable {w W W' : World} {g gl k : Nat} {zs : List Int} {vb : Value} {rb : List Rc} {cells : Array Value} {r : Rc}
theorem SA.below (h : SA w g gl zs k vb rb cells r W) (hb : Below W.heap.size W W') : SA w g gl zs k vb rb cells r W' := by
  obtain ⟨h1, h2, h3, h4, h5, h6, h7⟩ := h
  exact ⟨h1.below (hb.mono h1.lt), ownsRow_below h2 hb, h3.below hb h3.lt, h4, below_next h5 hb, h6, h7.below hb h7.lt⟩
theorem SA.recs {A : Option Addr} {c : Nat} (h : SA w g gl zs k (.slice A rb.length c) rb cells r W) (hm : rb.length ≤ 1000000) : RecsAt W A c rb := by
  obtain ⟨A', c', e, hr⟩ := RecsAt.own h.2.1 hm
  injection e with e1 e2 e3
  subst e1 e3
  exact hr
theorem SA.tape {k' : Nat} (h : SA w g gl zs k vb rb cells r W) (hg : W.grownBy W' (some g)) (ht : TapeAt W' g zs k') : SA w g gl zs k' vb rb cells r W' := by
  obtain ⟨h1, h2, h3, h4, h5, h6, h7⟩ := h
  exact ⟨ht, own_only h2 hg (by omega), h3.grown hg (fun e => by injection e with e; omega), h4, below_only h5 hg (by omega) h5.size, h6, h7.grown hg (fun e => by injection e with e; omega)⟩
theorem SA.set {q : Nat} (h : SA w g gl zs k vb rb cells r W) (hq : gl < q) (hv : vb.ownBlock ≠ some q) (cs : Array Value) : SA w g gl zs k vb rb cells r (W.setRow q cs) := by
  obtain ⟨h1, h2, h3, h4, h5, h6, h7⟩ := h
  have hg := setRow_only W q cs
  exact ⟨h1.grown hg (fun r e => by injection e with e; omega), h2.kept hg (.inr hv), h3.grown hg (fun e => by injection e with e; omega), h4, below_setRow h5 (by omega) cs, h6, h7.grown hg (fun e => by injection e with e; omega)⟩
end
set_option maxHeartbeats 4000000 in
set_option maxRecDepth 100000 in
theorem storeAll_walk (rs0 : List Rc) (A0 : Option Addr) (c0 : Nat) (zs : List Int) (A1 : Option Addr) (c1 : Nat) (now kind key fam : Int) (r : Rc) (w : World)
    (h0 : RecsAt w A0 c0 rs0) (h1 : IntsIn w A1 c1 zs) (hlen0 : rs0.length ≤ 100)
    (hn : -9223372036854775808 ≤ now ∧ now ≤ 9223372036854775807) (hk : -9223372036854775808 ≤ kind ∧ kind ≤ 9223372036854775807) (hx : -9223372036854775808 ≤ key ∧ key ≤ 9223372036854775807) (hf : -9223372036854775808 ≤ fam ∧ fam ≤ 9223372036854775807) :
    Calls Try.prog 5 #[.slice A0 rs0.length c0, .slice A1 zs.length c1, .int .i64 now, .int .i64 kind, .int .i64 key, .agg r.arr, .int .i64 fam] w fun e w' => e = .returned (.bool true) ∧ Below w.heap.size w w' := by
  have hb := (Below.refl w.heap.size w).alloc (Nat.le_refl _) (.cells r.arr 32)
  have hblk := Blk.new w 32 r.arr
  have HR0 := Lib.hid h0.keeps
  have HR1 := Lib.hid h1
  have cfew := Lib.hid (fun W => few19_walk A0 rs0.length c0 true (by simpa using hlen0) W)
  have cwn := Lib.hid (fun W => within19_walk now 45 W (by omega) (by omega) hn)
  have cwk := Lib.hid (fun W => within19_walk kind 8 W (by omega) (by omega) hk)
  have cwx := Lib.hid (fun W => within19_walk key 32 W (by omega) (by omega) hx)
  have cwf := Lib.hid (fun W => within19_walk fam 5 W (by omega) (by omega) hf)
  obtain ⟨nw, hnw⟩ : ∃ q, now % 45 = q := ⟨_, rfl⟩
  obtain ⟨kw, hkw⟩ : ∃ q, kind % 8 = q := ⟨_, rfl⟩
  obtain ⟨xw, hxw⟩ : ∃ q, key % 32 = q := ⟨_, rfl⟩
  obtain ⟨fw, hfw⟩ : ∃ q, fam % 5 = q := ⟨_, rfl⟩
  rw [hnw] at cwn
  rw [hkw] at cwk
  rw [hxw] at cwx
  rw [hfw] at cwf
  clear h0 h1 hn hk hx hf hnw hkw hxw hfw
  go_enter Try.func5, Try.ntmps5
  go_wp2_with fail
  refine (known19_walk _).mono ?_
  rintro _ w1 ⟨rfl, hbn⟩
  have hblk1 := hblk.below hbn (by simp)
  replace hb := below_next hb hbn
  have hw0 : w.heap.size < w1.heap.size := hblk1.lt
  clear hbn hblk
  go_wp2_with fail
  refine (cfew.out _).mono ?_
  rintro _ w1 ⟨rfl, rfl⟩
  have hT := Lib.hid (tape_new (HR1.out.below hb))
  have hb2 := hb.alloc hb.size (.cells #[.slice A1 zs.length c1, .int .i64 0] 43)
  have hblk2 := hblk1.alloc (.cells #[.slice A1 zs.length c1, .int .i64 0] 43)
  have cr := Lib.hid (recs_walk zs A1 c1 40 (by omega) (w1.alloc (.cells #[.slice A1 zs.length c1, .int .i64 0] 43)) (HR1.out.below hb2))
  clear hblk1
  go_wp2_with fail
  refine cr.out.mono ?_
  rintro _ w2 ⟨rb, _, hlenb, v, rfl, hown, hbn⟩
  obtain ⟨Ab, cb, rfl, hrb⟩ := RecsAt.own hown (by omega)
  have hsa : SA w w1.heap.size w2.heap.size zs 0 (.slice Ab rb.length cb) rb #[.slice A0 rs0.length c0, .slice Ab rb.length cb] r (w2.alloc (.cells #[.slice A0 rs0.length c0, .slice Ab rb.length cb] 24)) := by
    have hsz := hbn.size
    simp at hsz
    have ht2 := hT.out.below (hbn.mono (show w1.heap.size < (w1.alloc _).heap.size by simp))
    have hbw := below_next hb2 hbn
    have hb3 := (Below.refl w2.heap.size w2).alloc (Nat.le_refl _) (.cells #[.slice A0 rs0.length c0, .slice Ab rb.length cb] 24)
    exact ⟨ht2.below (hb3.mono ht2.lt), (hown.mono (by simp)).alloc _, Blk.new _ _ _, by omega, below_next hbw hb3, hw0, ((hblk2.below hbn (by simp; omega)).alloc _)⟩
  have hgl : w1.heap.size < w2.heap.size := hsa.2.2.2.1
  have HSA := Lib.hid hsa
  clear hsa hown hbn hb hb2 hblk2 hT cr hrb
  go_wp2_with fail
  go_loopw [17] (fun iv wr => ∃ (i k : Nat), i ≤ 2 ∧ iv = .int .i64 i ∧ Hid (SA w w1.heap.size w2.heap.size zs k (.slice Ab rb.length cb) rb #[.slice A0 rs0.length c0, .slice Ab rb.length cb] r wr)) (fun iv _ => 2 - (intOf iv).toNat)
  case atStart => exact ⟨0, 0, by omega, rfl, HSA⟩
  case round =>
    clear HSA
    obtain ⟨i, k, hi, rfl, hsa⟩ := hrel
    rcases show i = 0 ∨ i = 1 ∨ i = 2 by omega with rfl | rfl | rfl
    · have hc := hsa.out.2.2.1.cell 0
      have hbr := hsa.out.2.2.2.2.2.2
      go_wp2_with (first
        | (refine wpList_load_rec rfl _ rfl ⟨w.heap.size, 0, none⟩ rfl r (blk_rec hbr) ?_)
        | (refine wpList_store_fresh wr rfl 32 _ _ rfl _ r.arr _ rfl rfl rfl rec_size r.ones ?_))
      have hS0 : Blk wr.drew w.heap.size 32 r.arr := hbr.drew
      refine wp_region_held_drew (S := fun X => Blk X w.heap.size 32 r.arr) (by kernel_rfl) hS0 (fun hHeld => ?_)
      first | (refine wpAnyH_take (i := 0) (v := _) rfl (by kernel_rfl) (by kernel_rfl) (by kernel_rfl) (fun _ _ _ h => h) (Or.inr ⟨?_, rfl⟩) (by assumption) ?_; rfl) | (refine wpAnyH_take (i := 0) (v := ?_) rfl (by kernel_rfl) (by kernel_rfl) (by kernel_rfl) (fun _ _ _ h => h) (Or.inl ⟨?_, ?_⟩) (by assumption) ?_; rotate_left; rfl; focus (intro w hSw; (try dsimp only at hSw); go_simp; all_goals (with_reducible rfl)))
      (try simp only [List.getElem_toArray, List.getElem_cons_zero, List.getElem_cons_succ, Act.put, List.setIfInBounds_toArray, List.set_cons_zero, List.set_cons_succ])
      first | (refine wpAnyH_take (i := 1) (v := _) rfl (by kernel_rfl) (by kernel_rfl) (by kernel_rfl) (fun _ _ _ h => h) (Or.inr ⟨?_, rfl⟩) (by assumption) ?_; rfl) | (refine wpAnyH_take (i := 1) (v := ?_) rfl (by kernel_rfl) (by kernel_rfl) (by kernel_rfl) (fun _ _ _ h => h) (Or.inl ⟨?_, ?_⟩) (by assumption) ?_; rotate_left; rfl; focus (intro w hSw; (try dsimp only at hSw); go_simp; all_goals (with_reducible rfl)))
      (try simp only [List.getElem_toArray, List.getElem_cons_zero, List.getElem_cons_succ, Act.put, List.setIfInBounds_toArray, List.set_cons_zero, List.set_cons_succ])
      first | (refine wpAnyH_take (i := 2) (v := _) rfl (by kernel_rfl) (by kernel_rfl) (by kernel_rfl) (fun _ _ _ h => h) (Or.inr ⟨?_, rfl⟩) (by assumption) ?_; rfl) | (refine wpAnyH_take (i := 2) (v := ?_) rfl (by kernel_rfl) (by kernel_rfl) (by kernel_rfl) (fun _ _ _ h => h) (Or.inl ⟨?_, ?_⟩) (by assumption) ?_; rotate_left; rfl; focus (intro w hSw; (try dsimp only at hSw); go_simp; all_goals (with_reducible rfl)))
      (try simp only [List.getElem_toArray, List.getElem_cons_zero, List.getElem_cons_succ, Act.put, List.setIfInBounds_toArray, List.set_cons_zero, List.set_cons_succ])
      refine wpAnyH_take (i := 3) (v := _) rfl (by kernel_rfl) (by kernel_rfl) (by kernel_rfl) (fun _ _ _ h => h) (yieldsIf_load_rec (by rfl) _ rfl ⟨w.heap.size, 0, none⟩ rfl r (fun w h => blk_rec h)) (by assumption) ?_
      (try simp only [List.getElem_toArray, List.getElem_cons_zero, List.getElem_cons_succ, Act.put, List.setIfInBounds_toArray, List.set_cons_zero, List.set_cons_succ])
      first | (refine wpAnyH_take (i := 4) (v := _) rfl (by kernel_rfl) (by kernel_rfl) (by kernel_rfl) (fun _ _ _ h => h) (Or.inr ⟨?_, rfl⟩) (by assumption) ?_; rfl) | (refine wpAnyH_take (i := 4) (v := ?_) rfl (by kernel_rfl) (by kernel_rfl) (by kernel_rfl) (fun _ _ _ h => h) (Or.inl ⟨?_, ?_⟩) (by assumption) ?_; rotate_left; rfl; focus (intro w hSw; (try dsimp only at hSw); go_simp; all_goals (with_reducible rfl)))
      (try simp only [List.getElem_toArray, List.getElem_cons_zero, List.getElem_cons_succ, Act.put, List.setIfInBounds_toArray, List.set_cons_zero, List.set_cons_succ])
      refine wpAnyH_ready (rs := [5]) (by kernel_rfl) (by simp) ?_
      refine AllReadyH.cons rfl (fun K hK => ?_) AllReadyH.nil
      go_simp
      have hS1 : Blk ((wr.alloc (.cells Rc.none.arr 32)).drew) w.heap.size 32 r.arr := (hbr.alloc _).drew
      have hyb0 : Blk ((wr.alloc (.cells Rc.none.arr 32)).drew) wr.heap.size 32 Rc.none.arr := (Blk.new _ _ _).drew
      have hb0 : Below wr.heap.size wr ((wr.alloc (.cells Rc.none.arr 32)).drew) := below_drewN ((Below.refl _ _).alloc (Nat.le_refl _) _) 1
      refine hK.out _ _ hS1 (fun hHeld => ?_)
      clear hK K
      (try simp only [List.getElem_toArray, List.getElem_cons_zero, List.getElem_cons_succ, Act.put, List.setIfInBounds_toArray, List.set_cons_zero, List.set_cons_succ])
      first | (refine wpAnyH_take (i := 6) (v := _) rfl (by kernel_rfl) (by kernel_rfl) (by kernel_rfl) (fun _ _ _ h => h) (Or.inr ⟨?_, rfl⟩) (by assumption) ?_; rfl) | (refine wpAnyH_take (i := 6) (v := ?_) rfl (by kernel_rfl) (by kernel_rfl) (by kernel_rfl) (fun _ _ _ h => h) (Or.inl ⟨?_, ?_⟩) (by assumption) ?_; rotate_left; rfl; focus (intro w hSw; (try dsimp only at hSw); go_simp; all_goals (with_reducible rfl)))
      (try simp only [List.getElem_toArray, List.getElem_cons_zero, List.getElem_cons_succ, Act.put, List.setIfInBounds_toArray, List.set_cons_zero, List.set_cons_succ])
      first | (refine wpAnyH_take (i := 7) (v := _) rfl (by kernel_rfl) (by kernel_rfl) (by kernel_rfl) (fun _ _ _ h => h) (Or.inr ⟨?_, rfl⟩) (by assumption) ?_; rfl) | (refine wpAnyH_take (i := 7) (v := ?_) rfl (by kernel_rfl) (by kernel_rfl) (by kernel_rfl) (fun _ _ _ h => h) (Or.inl ⟨?_, ?_⟩) (by assumption) ?_; rotate_left; rfl; focus (intro w hSw; (try dsimp only at hSw); go_simp; all_goals (with_reducible rfl)))
      (try simp only [List.getElem_toArray, List.getElem_cons_zero, List.getElem_cons_succ, Act.put, List.setIfInBounds_toArray, List.set_cons_zero, List.set_cons_succ])
      first | (refine wpAnyH_take (i := 8) (v := _) rfl (by kernel_rfl) (by kernel_rfl) (by kernel_rfl) (fun _ _ _ h => h) (Or.inr ⟨?_, rfl⟩) (by assumption) ?_; rfl) | (refine wpAnyH_take (i := 8) (v := ?_) rfl (by kernel_rfl) (by kernel_rfl) (by kernel_rfl) (fun _ _ _ h => h) (Or.inl ⟨?_, ?_⟩) (by assumption) ?_; rotate_left; rfl; focus (intro w hSw; (try dsimp only at hSw); go_simp; all_goals (with_reducible rfl)))
      (try simp only [List.getElem_toArray, List.getElem_cons_zero, List.getElem_cons_succ, Act.put, List.setIfInBounds_toArray, List.set_cons_zero, List.set_cons_succ])
      refine wpAnyH_ready (rs := [9]) (by kernel_rfl) (by simp) ?_
      refine AllReadyH.cons rfl (fun K hK => ?_) AllReadyH.nil
      rw [if_pos (by rfl)]
      refine wp_store_blk 32 _ _ rfl wr.heap.size _ r.arr _ rfl rfl hyb0 rfl rec_size r.ones ?_
      have hne3 : w.heap.size ≠ wr.heap.size := by have := hbr.lt; omega
      refine hK.out _ _ (hHeld.setOther hne3 _) (fun hHeld2 => ?_)
      clear hK K
      (try simp only [List.getElem_toArray, List.getElem_cons_zero, List.getElem_cons_succ, Act.put, List.setIfInBounds_toArray, List.set_cons_zero, List.set_cons_succ])
      first | (refine wpAnyH_take (i := 10) (v := _) rfl (by kernel_rfl) (by kernel_rfl) (by kernel_rfl) (fun _ _ _ h => h) (Or.inr ⟨?_, rfl⟩) (by assumption) ?_; rfl) | (refine wpAnyH_take (i := 10) (v := ?_) rfl (by kernel_rfl) (by kernel_rfl) (by kernel_rfl) (fun _ _ _ h => h) (Or.inl ⟨?_, ?_⟩) (by assumption) ?_; rotate_left; rfl; focus (intro w hSw; (try dsimp only at hSw); go_simp; all_goals (with_reducible rfl)))
      (try simp only [List.getElem_toArray, List.getElem_cons_zero, List.getElem_cons_succ, Act.put, List.setIfInBounds_toArray, List.set_cons_zero, List.set_cons_succ])
      refine wpAnyH_done (by kernel_rfl) ?_ _
      have hbW : Below wr.heap.size wr (((wr.alloc (.cells Rc.none.arr 32)).drew).setRow wr.heap.size r.arr) := below_setRow hb0 (Nat.le_refl _) _
      have hyb : Blk (((wr.alloc (.cells Rc.none.arr 32)).drew).setRow wr.heap.size r.arr) wr.heap.size 32 r.arr := hyb0.setRow
      have HK : Hid (Keeps (((wr.alloc (.cells Rc.none.arr 32)).drew).setRow wr.heap.size r.arr) (fun X => (RecsAt X A0 c0 rs0 ∧ Blk X wr.heap.size 32 r.arr) ∧ SA w w1.heap.size w2.heap.size zs k (.slice Ab rb.length cb) rb #[.slice A0 rs0.length c0, .slice Ab rb.length cb] r X)) :=
        fun X hX => ⟨⟨HR0.out X (below_next hsa.out.2.2.2.2.1 (below_next hbW hX)), hyb.keeps X hX⟩, (hsa.out.below hbW).below hX⟩
      clear hc hbr hS0 hHeld hS1 hyb0 hb0 hHeld2 hbW hyb hne3 hsa
      have hl1 := putL_len rs0 now r
      have hl2 := takeL_len rs0 now kind key
      have hl3 := changeL_len rs0 now r
      have hl4 := liveL_le now rs0
      have hl5 : (revokeL fam rs0).length ≤ rs0.length := List.length_filter_le _ _
      have cp := Lib.hid (fun W h => put_walk rs0 A0 c0 now r W h (by omega))
      have cp' := Lib.hid (fun W h => rput_walk rs0 A0 c0 now r W h (by omega))
      have ct := Lib.hid (fun W h => take_walk rs0 A0 c0 now kind key W h)
      have ct' := Lib.hid (fun W h => rtake_walk rs0 A0 c0 now kind key W h)
      have cc := Lib.hid (fun W h => change_walk rs0 A0 c0 now r W h)
      have cc' := Lib.hid (fun W h => rchange_walk rs0 A0 c0 now r W h)
      have cf := Lib.hid (fun W h => find_walk rs0 A0 c0 now kind key W h)
      have cf' := Lib.hid (fun W h => rfind_walk rs0 A0 c0 now kind key W h)
      have cl := Lib.hid (fun W h => live_walk rs0 A0 c0 now W h)
      have cl' := Lib.hid (fun W h => rlive_walk rs0 A0 c0 now W h)
      have cm := Lib.hid (fun W h => room_walk rs0 A0 c0 now kind W h)
      have cm' := Lib.hid (fun W h => rroom_walk rs0 A0 c0 now kind W h)
      have cv := Lib.hid (fun W h => revoke_walk rs0 A0 c0 fam W h)
      have cv' := Lib.hid (fun W h => rrevoke_walk rs0 A0 c0 fam W h)
      have cs := Lib.hid (fun W => most_walk kind W)
      have cs' := Lib.hid (fun W => rmost_walk kind W)
      have ce := Lib.hid (fun W => life_walk kind W)
      have ce' := Lib.hid (fun W => rlife_walk kind W)
      obtain ⟨lp, h_lp⟩ : ∃ q, putL rs0 now r = q := ⟨_, rfl⟩
      rw [h_lp] at cp cp' hl1
      clear h_lp
      obtain ⟨ep, h_ep⟩ : ∃ q, putC rs0 now r = q := ⟨_, rfl⟩
      rw [h_ep] at cp cp'
      clear h_ep
      obtain ⟨lt, h_lt⟩ : ∃ q, takeL rs0 now kind key = q := ⟨_, rfl⟩
      rw [h_lt] at ct ct' hl2
      clear h_lt
      obtain ⟨o, h_o⟩ : ∃ q, findO rs0 now kind key = q := ⟨_, rfl⟩
      rw [h_o] at ct ct' cf cf'
      clear h_o
      obtain ⟨lc, h_lc⟩ : ∃ q, changeL rs0 now r = q := ⟨_, rfl⟩
      rw [h_lc] at cc cc' hl3
      clear h_lc
      obtain ⟨oc, h_oc⟩ : ∃ q, (changeI rs0 now r).isSome = q := ⟨_, rfl⟩
      rw [h_oc] at cc cc'
      clear h_oc
      obtain ⟨ll, h_ll⟩ : ∃ q, liveL now rs0 = q := ⟨_, rfl⟩
      rw [h_ll] at cl cl' hl4
      clear h_ll
      obtain ⟨rm, h_rm⟩ : ∃ q, roomI rs0 now kind = q := ⟨_, rfl⟩
      rw [h_rm] at cm cm'
      clear h_rm
      obtain ⟨lv, h_lv⟩ : ∃ q, revokeL fam rs0 = q := ⟨_, rfl⟩
      rw [h_lv] at cv cv' hl5
      clear h_lv
      obtain ⟨ms, h_ms⟩ : ∃ q, mostI kind = q := ⟨_, rfl⟩
      rw [h_ms] at cs cs'
      clear h_ms
      obtain ⟨lf, h_lf⟩ : ∃ q, lifeI kind = q := ⟨_, rfl⟩
      rw [h_lf] at ce ce'
      clear h_lf
      have kk := HK.out.now
      have c1 := Lib.hid (cp.out _ kk.1.1)
      have hy := kk.1.2
      clear cp kk
      go_wp2_with (refine wpList_load_rec rfl _ rfl ⟨wr.heap.size, 0, none⟩ rfl r (blk_rec hy) ?_)
      refine c1.out.mono ?_
      rintro _ w3 ⟨v, rfl, hown, hbn⟩
      obtain ⟨Ap, dp, rfl, hr3⟩ := RecsAt.own hown (by omega)
      have HK := Lib.hid (HK.out.next hbn hr3.keeps)
      clear hown hbn hr3 c1 hy
      have kk := HK.out.now
      have c1 := Lib.hid (cp'.out _ kk.1.1.1)
      have hy := kk.1.1.2
      clear cp' kk
      go_wp2_with (refine wpList_load_rec rfl _ rfl ⟨wr.heap.size, 0, none⟩ rfl r (blk_rec hy) ?_)
      refine c1.out.mono ?_
      rintro _ w4 ⟨Aq, dq, rfl, hr3, hbn⟩
      have HK := Lib.hid (HK.out.next hbn hr3.keeps)
      clear hbn hr3 c1 hy
      have kk := HK.out.now
      have c1 := Lib.hid (ct.out _ kk.1.1.1.1)
      clear ct kk
      go_wp2_with fail
      refine c1.out.mono ?_
      rintro _ w5 ⟨v, rfl, hown, hbn⟩
      obtain ⟨At, dt, rfl, hr3⟩ := RecsAt.own hown (by omega)
      have HK := Lib.hid (HK.out.next hbn hr3.keeps)
      clear hown hbn hr3 c1
      have HK := Lib.hid (HK.out.next ((Below.refl w5.heap.size w5).alloc (Nat.le_refl _) (.cells (o.getD Rc.none).arr 32)) (Blk.new w5 32 (o.getD Rc.none).arr).keeps)
      have kk := HK.out.now
      have c1 := Lib.hid (ct'.out _ kk.1.1.1.1.1.1)
      clear ct' kk
      go_wp2_with (refine wpList_store_fresh w5 rfl 32 _ _ rfl _ (o.getD Rc.none).arr _ rfl rfl rfl rec_size (Rc.ones _) ?_)
      refine c1.out.mono ?_
      rintro _ w6 ⟨Ad, dd, rfl, hr3, hbn⟩
      have HK := Lib.hid (HK.out.next hbn hr3.keeps)
      clear hbn hr3 c1
      have HK := Lib.hid (HK.out.next ((Below.refl w6.heap.size w6).alloc (Nat.le_refl _) (.cells (o.getD Rc.none).arr 32)) (Blk.new w6 32 (o.getD Rc.none).arr).keeps)
      have kk := HK.out.now
      have c1 := Lib.hid (cc.out _ kk.1.1.1.1.1.1.1.1)
      have hy := kk.1.1.1.1.1.1.1.2
      clear cc kk
      go_wp2_with (first | (refine wpList_load_rec rfl _ rfl ⟨wr.heap.size, 0, none⟩ rfl r (blk_rec hy) ?_) | (refine wpList_store_fresh w6 rfl 32 _ _ rfl _ (o.getD Rc.none).arr _ rfl rfl rfl rec_size (Rc.ones _) ?_))
      refine c1.out.mono ?_
      rintro _ w7 ⟨v, rfl, hown, hbn⟩
      obtain ⟨Au, du, rfl, hr3⟩ := RecsAt.own hown (by omega)
      have HK := Lib.hid (HK.out.next hbn hr3.keeps)
      clear hown hbn hr3 c1 hy
      have kk := HK.out.now
      have c1 := Lib.hid (cc'.out _ kk.1.1.1.1.1.1.1.1.1)
      have hy := kk.1.1.1.1.1.1.1.1.2
      clear cc' kk
      go_wp2_with (refine wpList_load_rec rfl _ rfl ⟨wr.heap.size, 0, none⟩ rfl r (blk_rec hy) ?_)
      refine c1.out.mono ?_
      rintro _ w8 ⟨Av, dv, rfl, hr3, hbn⟩
      have HK := Lib.hid (HK.out.next hbn hr3.keeps)
      clear hbn hr3 c1 hy
      have kk := HK.out.now
      have c1 := Lib.hid (cf.out _ kk.1.1.1.1.1.1.1.1.1.1)
      clear cf kk
      go_wp2_with fail
      refine c1.out.mono ?_
      rintro _ w9 ⟨rfl, hbn⟩
      have HK := Lib.hid (HK.out.on hbn)
      clear hbn c1
      have HK := Lib.hid (HK.out.next ((Below.refl w9.heap.size w9).alloc (Nat.le_refl _) (.cells (o.getD Rc.none).arr 32)) (Blk.new w9 32 (o.getD Rc.none).arr).keeps)
      have kk := HK.out.now
      have c1 := Lib.hid (cf'.out _ kk.1.1.1.1.1.1.1.1.1.1.1)
      clear cf' kk
      go_wp2_with (refine wpList_store_fresh w9 rfl 32 _ _ rfl _ (o.getD Rc.none).arr _ rfl rfl rfl rec_size (Rc.ones _) ?_)
      refine c1.out.mono ?_
      rintro _ w10 ⟨rfl, hbn⟩
      have HK := Lib.hid (HK.out.on hbn)
      clear hbn c1
      have HK := Lib.hid (HK.out.next ((Below.refl w10.heap.size w10).alloc (Nat.le_refl _) (.cells (o.getD Rc.none).arr 32)) (Blk.new w10 32 (o.getD Rc.none).arr).keeps)
      go_upto_region 22 with (refine wpList_store_fresh w10 rfl 32 _ _ rfl _ (o.getD Rc.none).arr _ rfl rfl rfl rec_size (Rc.ones _) ?_)
      simp only [List.append_eq, List.cons_append, List.nil_append]
      go_wp2_with fail
      have h_ni : ∀ q : Int, (q != q) = false := fun q => by simp
      have h_nb : ∀ q : Bool, (q != q) = false := fun q => by simp
      have hnq : ∀ W, (binOp .neq 32 (.agg (o.getD Rc.none).arr) (.agg (o.getD Rc.none).arr)).run Try.prog W = .ok (.bool false) W := fun W => by rw [neq_rec]; simp
      have hqg : Try.prog.eqGuardType Try.prog.depth 32 = false := by kernel_rfl
      have kk := HK.out.now
      refine (same_self lp Ap Aq dp dq _ kk.1.1.1.1.1.1.1.1.1.2 kk.1.1.1.1.1.1.1.1.2).mono ?_
      rintro _ w11 ⟨rfl, hbn⟩
      have HK := Lib.hid (HK.out.on hbn)
      clear hbn kk
      have kk := HK.out.now
      have c1 := Lib.hid (same_self lt At Ad dt dd _ kk.1.1.1.1.1.1.1.2 kk.1.1.1.1.1.2)
      clear kk
      go_wp2_with fail
      refine c1.out.mono ?_
      rintro _ w12 ⟨rfl, hbn⟩
      have HK := Lib.hid (HK.out.on hbn)
      clear hbn c1
      have kk := HK.out.now
      have c1 := Lib.hid (same_self lc Au Av du dv _ kk.1.1.1.2 kk.1.1.2)
      have hp := kk.1.1.1.1.1.1.2
      have hq := kk.1.1.1.1.2
      clear kk
      go_wp2_with (first | (refine wpList_load_recG (by kernel_rfl) _ rfl ⟨w5.heap.size, 0, none⟩ rfl (o.getD Rc.none) (blk_rec hp) ?_) | (refine wpList_load_recG (by kernel_rfl) _ rfl ⟨w6.heap.size, 0, none⟩ rfl (o.getD Rc.none) (blk_rec hq) ?_))
      refine c1.out.mono ?_
      rintro _ w13 ⟨rfl, hbn⟩
      have HK := Lib.hid (HK.out.on hbn)
      clear hbn c1 hp hq
      have kk := HK.out.now
      have c1 := Lib.hid (cl.out _ kk.1.1.1.1.1.1.1.1.1.1.1.1)
      have hp := kk.1.2
      have hq := kk.2
      clear kk cl
      go_wp2_with (first | (refine wpList_load_recG (by kernel_rfl) _ rfl ⟨w9.heap.size, 0, none⟩ rfl (o.getD Rc.none) (blk_rec hp) ?_) | (refine wpList_load_recG (by kernel_rfl) _ rfl ⟨w10.heap.size, 0, none⟩ rfl (o.getD Rc.none) (blk_rec hq) ?_))
      refine c1.out.mono ?_
      rintro _ w14 ⟨v, rfl, hown, hbn⟩
      obtain ⟨Al, dl, rfl, hr3⟩ := RecsAt.own hown (by omega)
      have HK := Lib.hid (HK.out.next hbn hr3.keeps)
      clear hbn c1 hp hq hown hr3
      have kk := HK.out.now
      have c1 := Lib.hid (cl'.out _ kk.1.1.1.1.1.1.1.1.1.1.1.1.1)
      clear kk cl'
      go_wp2_with fail
      refine c1.out.mono ?_
      rintro _ w15 ⟨v, rfl, hown, hbn⟩
      obtain ⟨Am, dm, rfl, hr3⟩ := RecsAt.own hown (by omega)
      have HK := Lib.hid (HK.out.next hbn hr3.keeps)
      clear hbn c1 hown hr3
      have kk := HK.out.now
      have c1 := Lib.hid (same_self ll Al Am dl dm _ kk.1.2 kk.2)
      clear kk
      go_wp2_with fail
      refine c1.out.mono ?_
      rintro _ w16 ⟨rfl, hbn⟩
      have HK := Lib.hid (HK.out.on hbn)
      clear hbn c1
      have kk := HK.out.now
      have c1 := Lib.hid (cm.out _ kk.1.1.1.1.1.1.1.1.1.1.1.1.1.1)
      clear kk cm
      go_wp2_with fail
      refine c1.out.mono ?_
      rintro _ w17 ⟨rfl, hbn⟩
      have HK := Lib.hid (HK.out.on hbn)
      clear hbn c1
      have kk := HK.out.now
      have c1 := Lib.hid (cm'.out _ kk.1.1.1.1.1.1.1.1.1.1.1.1.1.1)
      clear kk cm'
      go_wp2_with fail
      refine c1.out.mono ?_
      rintro _ w18 ⟨rfl, hbn⟩
      have HK := Lib.hid (HK.out.on hbn)
      clear hbn c1
      have kk := HK.out.now
      have c1 := Lib.hid (cv.out _ kk.1.1.1.1.1.1.1.1.1.1.1.1.1.1)
      clear kk cv
      go_wp2_with fail
      refine c1.out.mono ?_
      rintro _ w19 ⟨v, rfl, hown, hbn⟩
      obtain ⟨Ar', dr', rfl, hr3⟩ := RecsAt.own hown (by omega)
      have HK := Lib.hid (HK.out.next hbn hr3.keeps)
      clear hbn c1 hown hr3
      have kk := HK.out.now
      have c1 := Lib.hid (cv'.out _ kk.1.1.1.1.1.1.1.1.1.1.1.1.1.1.1)
      clear kk cv'
      go_wp2_with fail
      refine c1.out.mono ?_
      rintro _ w20 ⟨v, rfl, hown, hbn⟩
      obtain ⟨As', ds', rfl, hr3⟩ := RecsAt.own hown (by omega)
      have HK := Lib.hid (HK.out.next hbn hr3.keeps)
      clear hbn c1 hown hr3
      have kk := HK.out.now
      have c1 := Lib.hid (same_self lv Ar' As' dr' ds' _ kk.1.2 kk.2)
      clear kk
      go_wp2_with fail
      refine c1.out.mono ?_
      rintro _ w21 ⟨rfl, hbn⟩
      have HK := Lib.hid (HK.out.on hbn)
      clear hbn c1
      have c1 := Lib.hid (cs.out)
      clear cs
      go_wp2_with fail
      refine (c1.out _).mono ?_
      rintro _ w22 ⟨rfl, hbn⟩
      have HK := Lib.hid (HK.out.on hbn)
      clear hbn c1
      have c1 := Lib.hid (cs'.out)
      clear cs'
      go_wp2_with fail
      refine (c1.out _).mono ?_
      rintro _ w23 ⟨rfl, hbn⟩
      have HK := Lib.hid (HK.out.on hbn)
      clear hbn c1
      have c1 := Lib.hid (ce.out)
      clear ce
      go_wp2_with fail
      refine (c1.out _).mono ?_
      rintro _ w24 ⟨rfl, hbn⟩
      have HK := Lib.hid (HK.out.on hbn)
      clear hbn c1
      have c1 := Lib.hid (ce'.out)
      clear ce'
      go_wp2_with fail
      refine (c1.out _).mono ?_
      rintro _ w25 ⟨rfl, hbn⟩
      have HK := Lib.hid (HK.out.on hbn)
      clear hbn c1
      have kk := HK.out.now
      have hsaN := Lib.hid (kk.1.1.1.1.1.1.1.1.1.1.1.1.1.1.2)
      clear kk
      go_wp2_with fail
      exact ⟨⟨1, k, by omega, by go_num, hsaN⟩, by simp [intOf]⟩
    · have hc := hsa.out.2.2.1.cell 1
      have hbr := hsa.out.2.2.2.2.2.2
      go_upto_region 11 with fail
      have hS0 : Blk wr.drew w.heap.size 32 r.arr := hbr.drew
      refine wp_region_held_drew (S := fun X => Blk X w.heap.size 32 r.arr) (by kernel_rfl) hS0 (fun hHeld => ?_)
      first | (refine wpAnyH_take (i := 0) (v := _) rfl (by kernel_rfl) (by kernel_rfl) (by kernel_rfl) (fun _ _ _ h => h) (Or.inr ⟨?_, rfl⟩) (by assumption) ?_; rfl) | (refine wpAnyH_take (i := 0) (v := ?_) rfl (by kernel_rfl) (by kernel_rfl) (by kernel_rfl) (fun _ _ _ h => h) (Or.inl ⟨?_, ?_⟩) (by assumption) ?_; rotate_left; rfl; focus (intro w hSw; (try dsimp only at hSw); go_simp; all_goals (with_reducible rfl)))
      (try simp only [List.getElem_toArray, List.getElem_cons_zero, List.getElem_cons_succ, Act.put, List.setIfInBounds_toArray, List.set_cons_zero, List.set_cons_succ])
      first | (refine wpAnyH_take (i := 1) (v := _) rfl (by kernel_rfl) (by kernel_rfl) (by kernel_rfl) (fun _ _ _ h => h) (Or.inr ⟨?_, rfl⟩) (by assumption) ?_; rfl) | (refine wpAnyH_take (i := 1) (v := ?_) rfl (by kernel_rfl) (by kernel_rfl) (by kernel_rfl) (fun _ _ _ h => h) (Or.inl ⟨?_, ?_⟩) (by assumption) ?_; rotate_left; rfl; focus (intro w hSw; (try dsimp only at hSw); go_simp; all_goals (with_reducible rfl)))
      (try simp only [List.getElem_toArray, List.getElem_cons_zero, List.getElem_cons_succ, Act.put, List.setIfInBounds_toArray, List.set_cons_zero, List.set_cons_succ])
      first | (refine wpAnyH_take (i := 2) (v := _) rfl (by kernel_rfl) (by kernel_rfl) (by kernel_rfl) (fun _ _ _ h => h) (Or.inr ⟨?_, rfl⟩) (by assumption) ?_; rfl) | (refine wpAnyH_take (i := 2) (v := ?_) rfl (by kernel_rfl) (by kernel_rfl) (by kernel_rfl) (fun _ _ _ h => h) (Or.inl ⟨?_, ?_⟩) (by assumption) ?_; rotate_left; rfl; focus (intro w hSw; (try dsimp only at hSw); go_simp; all_goals (with_reducible rfl)))
      (try simp only [List.getElem_toArray, List.getElem_cons_zero, List.getElem_cons_succ, Act.put, List.setIfInBounds_toArray, List.set_cons_zero, List.set_cons_succ])
      refine wpAnyH_take (i := 3) (v := _) rfl (by kernel_rfl) (by kernel_rfl) (by kernel_rfl) (fun _ _ _ h => h) (yieldsIf_load_rec (by rfl) _ rfl ⟨w.heap.size, 0, none⟩ rfl r (fun w h => blk_rec h)) (by assumption) ?_
      (try simp only [List.getElem_toArray, List.getElem_cons_zero, List.getElem_cons_succ, Act.put, List.setIfInBounds_toArray, List.set_cons_zero, List.set_cons_succ])
      first | (refine wpAnyH_take (i := 4) (v := _) rfl (by kernel_rfl) (by kernel_rfl) (by kernel_rfl) (fun _ _ _ h => h) (Or.inr ⟨?_, rfl⟩) (by assumption) ?_; rfl) | (refine wpAnyH_take (i := 4) (v := ?_) rfl (by kernel_rfl) (by kernel_rfl) (by kernel_rfl) (fun _ _ _ h => h) (Or.inl ⟨?_, ?_⟩) (by assumption) ?_; rotate_left; rfl; focus (intro w hSw; (try dsimp only at hSw); go_simp; all_goals (with_reducible rfl)))
      (try simp only [List.getElem_toArray, List.getElem_cons_zero, List.getElem_cons_succ, Act.put, List.setIfInBounds_toArray, List.set_cons_zero, List.set_cons_succ])
      refine wpAnyH_ready (rs := [5]) (by kernel_rfl) (by simp) ?_
      refine AllReadyH.cons rfl (fun K hK => ?_) AllReadyH.nil
      go_simp
      have hS1 : Blk ((wr.alloc (.cells Rc.none.arr 32)).drew) w.heap.size 32 r.arr := (hbr.alloc _).drew
      have hyb0 : Blk ((wr.alloc (.cells Rc.none.arr 32)).drew) wr.heap.size 32 Rc.none.arr := (Blk.new _ _ _).drew
      have hb0 : Below wr.heap.size wr ((wr.alloc (.cells Rc.none.arr 32)).drew) := below_drewN ((Below.refl _ _).alloc (Nat.le_refl _) _) 1
      refine hK.out _ _ hS1 (fun hHeld => ?_)
      clear hK K
      (try simp only [List.getElem_toArray, List.getElem_cons_zero, List.getElem_cons_succ, Act.put, List.setIfInBounds_toArray, List.set_cons_zero, List.set_cons_succ])
      first | (refine wpAnyH_take (i := 6) (v := _) rfl (by kernel_rfl) (by kernel_rfl) (by kernel_rfl) (fun _ _ _ h => h) (Or.inr ⟨?_, rfl⟩) (by assumption) ?_; rfl) | (refine wpAnyH_take (i := 6) (v := ?_) rfl (by kernel_rfl) (by kernel_rfl) (by kernel_rfl) (fun _ _ _ h => h) (Or.inl ⟨?_, ?_⟩) (by assumption) ?_; rotate_left; rfl; focus (intro w hSw; (try dsimp only at hSw); go_simp; all_goals (with_reducible rfl)))
      (try simp only [List.getElem_toArray, List.getElem_cons_zero, List.getElem_cons_succ, Act.put, List.setIfInBounds_toArray, List.set_cons_zero, List.set_cons_succ])
      first | (refine wpAnyH_take (i := 7) (v := _) rfl (by kernel_rfl) (by kernel_rfl) (by kernel_rfl) (fun _ _ _ h => h) (Or.inr ⟨?_, rfl⟩) (by assumption) ?_; rfl) | (refine wpAnyH_take (i := 7) (v := ?_) rfl (by kernel_rfl) (by kernel_rfl) (by kernel_rfl) (fun _ _ _ h => h) (Or.inl ⟨?_, ?_⟩) (by assumption) ?_; rotate_left; rfl; focus (intro w hSw; (try dsimp only at hSw); go_simp; all_goals (with_reducible rfl)))
      (try simp only [List.getElem_toArray, List.getElem_cons_zero, List.getElem_cons_succ, Act.put, List.setIfInBounds_toArray, List.set_cons_zero, List.set_cons_succ])
      first | (refine wpAnyH_take (i := 8) (v := _) rfl (by kernel_rfl) (by kernel_rfl) (by kernel_rfl) (fun _ _ _ h => h) (Or.inr ⟨?_, rfl⟩) (by assumption) ?_; rfl) | (refine wpAnyH_take (i := 8) (v := ?_) rfl (by kernel_rfl) (by kernel_rfl) (by kernel_rfl) (fun _ _ _ h => h) (Or.inl ⟨?_, ?_⟩) (by assumption) ?_; rotate_left; rfl; focus (intro w hSw; (try dsimp only at hSw); go_simp; all_goals (with_reducible rfl)))
      (try simp only [List.getElem_toArray, List.getElem_cons_zero, List.getElem_cons_succ, Act.put, List.setIfInBounds_toArray, List.set_cons_zero, List.set_cons_succ])
      refine wpAnyH_ready (rs := [9]) (by kernel_rfl) (by simp) ?_
      refine AllReadyH.cons rfl (fun K hK => ?_) AllReadyH.nil
      rw [if_pos (by rfl)]
      refine wp_store_blk 32 _ _ rfl wr.heap.size _ r.arr _ rfl rfl hyb0 rfl rec_size r.ones ?_
      have hne3 : w.heap.size ≠ wr.heap.size := by have := hbr.lt; omega
      refine hK.out _ _ (hHeld.setOther hne3 _) (fun hHeld2 => ?_)
      clear hK K
      (try simp only [List.getElem_toArray, List.getElem_cons_zero, List.getElem_cons_succ, Act.put, List.setIfInBounds_toArray, List.set_cons_zero, List.set_cons_succ])
      first | (refine wpAnyH_take (i := 10) (v := _) rfl (by kernel_rfl) (by kernel_rfl) (by kernel_rfl) (fun _ _ _ h => h) (Or.inr ⟨?_, rfl⟩) (by assumption) ?_; rfl) | (refine wpAnyH_take (i := 10) (v := ?_) rfl (by kernel_rfl) (by kernel_rfl) (by kernel_rfl) (fun _ _ _ h => h) (Or.inl ⟨?_, ?_⟩) (by assumption) ?_; rotate_left; rfl; focus (intro w hSw; (try dsimp only at hSw); go_simp; all_goals (with_reducible rfl)))
      (try simp only [List.getElem_toArray, List.getElem_cons_zero, List.getElem_cons_succ, Act.put, List.setIfInBounds_toArray, List.set_cons_zero, List.set_cons_succ])
      refine wpAnyH_done (by kernel_rfl) ?_ _
      have hbW : Below wr.heap.size wr (((wr.alloc (.cells Rc.none.arr 32)).drew).setRow wr.heap.size r.arr) := below_setRow hb0 (Nat.le_refl _) _
      have hyb : Blk (((wr.alloc (.cells Rc.none.arr 32)).drew).setRow wr.heap.size r.arr) wr.heap.size 32 r.arr := hyb0.setRow
      have hs0 := hsa.out.below hbW
      have hvo : (Value.slice Ab rb.length cb).ownBlock ≠ some wr.heap.size := fun e => by have := (hsa.out.2.1.lt _ e).2; omega
      have hgq : w2.heap.size < wr.heap.size := hsa.out.2.2.1.lt
      have HS0 := Lib.hid hs0
      have HYB := Lib.hid hyb
      clear hc hbr hS0 hHeld hS1 hyb0 hb0 hHeld2 hne3 hbW hyb hs0
      have crc := Lib.hid (rec_walk zs w1.heap.size k (((wr.alloc (.cells Rc.none.arr 32)).drew).setRow wr.heap.size r.arr) HS0.out.1)
      go_wp2_with fail
      refine (cwn.out _).mono ?_
      rintro _ wa ⟨rfl, rfl⟩
      go_wp2_with fail
      refine (cwk.out _).mono ?_
      rintro _ wa ⟨rfl, rfl⟩
      go_wp2_with fail
      refine (cwx.out _).mono ?_
      rintro _ wa ⟨rfl, rfl⟩
      go_wp2_with fail
      refine crc.out.mono ?_
      rintro _ w3 ⟨y, k2, rfl, _, hk2, ht3, hg3⟩
      have hs3 := HS0.out.tape hg3 ht3
      have hy3 := HYB.out.grown hg3 (fun e => by injection e with e; omega)
      have hyb := hy3.setRow (cs' := y.arr)
      have HK : Hid (Keeps (w3.setRow wr.heap.size y.arr) (fun X => (RecsAt X Ab cb rb ∧ Blk X wr.heap.size 32 y.arr) ∧ SA w w1.heap.size w2.heap.size zs k2 (.slice Ab rb.length cb) rb #[.slice A0 rs0.length c0, .slice Ab rb.length cb] r X)) :=
        fun X hX => ⟨⟨((hs3.set hgq hvo y.arr).below hX).recs (by omega), hyb.keeps X hX⟩, (hs3.set hgq hvo y.arr).below hX⟩
      clear crc HS0 HYB hs3 hyb ht3 hg3 hsa
      go_wp2_with fail
      refine (cwf.out _).mono ?_
      rintro _ wa ⟨rfl, rfl⟩
      have hyl := hy3.setRow (cs' := y.arr)
      go_wp2_with (first | (refine wpList_store_blk rfl 32 _ _ rfl wr.heap.size _ y.arr _ rfl rfl hy3 rfl rec_size y.ones ?_) | (refine wpList_load_rec rfl _ rfl ⟨wr.heap.size, 0, none⟩ rfl y (blk_rec hyl) ?_))
      clear hy3 hyl
      have hl1 := putL_len rb nw y
      have hl2 := takeL_len rb nw kw xw
      have hl3 := changeL_len rb nw y
      have hl4 := liveL_le nw rb
      have hl5 : (revokeL fw rb).length ≤ rb.length := List.length_filter_le _ _
      have cp := Lib.hid (fun W h => put_walk rb Ab cb nw y W h (by omega))
      have cp' := Lib.hid (fun W h => rput_walk rb Ab cb nw y W h (by omega))
      have ct := Lib.hid (fun W h => take_walk rb Ab cb nw kw xw W h)
      have ct' := Lib.hid (fun W h => rtake_walk rb Ab cb nw kw xw W h)
      have cc := Lib.hid (fun W h => change_walk rb Ab cb nw y W h)
      have cc' := Lib.hid (fun W h => rchange_walk rb Ab cb nw y W h)
      have cf := Lib.hid (fun W h => find_walk rb Ab cb nw kw xw W h)
      have cf' := Lib.hid (fun W h => rfind_walk rb Ab cb nw kw xw W h)
      have cl := Lib.hid (fun W h => live_walk rb Ab cb nw W h)
      have cl' := Lib.hid (fun W h => rlive_walk rb Ab cb nw W h)
      have cm := Lib.hid (fun W h => room_walk rb Ab cb nw kw W h)
      have cm' := Lib.hid (fun W h => rroom_walk rb Ab cb nw kw W h)
      have cv := Lib.hid (fun W h => revoke_walk rb Ab cb fw W h)
      have cv' := Lib.hid (fun W h => rrevoke_walk rb Ab cb fw W h)
      have cs := Lib.hid (fun W => most_walk kw W)
      have cs' := Lib.hid (fun W => rmost_walk kw W)
      have ce := Lib.hid (fun W => life_walk kw W)
      have ce' := Lib.hid (fun W => rlife_walk kw W)
      obtain ⟨lp, h_lp⟩ : ∃ q, putL rb nw y = q := ⟨_, rfl⟩
      rw [h_lp] at cp cp' hl1
      clear h_lp
      obtain ⟨ep, h_ep⟩ : ∃ q, putC rb nw y = q := ⟨_, rfl⟩
      rw [h_ep] at cp cp'
      clear h_ep
      obtain ⟨lt, h_lt⟩ : ∃ q, takeL rb nw kw xw = q := ⟨_, rfl⟩
      rw [h_lt] at ct ct' hl2
      clear h_lt
      obtain ⟨o, h_o⟩ : ∃ q, findO rb nw kw xw = q := ⟨_, rfl⟩
      rw [h_o] at ct ct' cf cf'
      clear h_o
      obtain ⟨lc, h_lc⟩ : ∃ q, changeL rb nw y = q := ⟨_, rfl⟩
      rw [h_lc] at cc cc' hl3
      clear h_lc
      obtain ⟨oc, h_oc⟩ : ∃ q, (changeI rb nw y).isSome = q := ⟨_, rfl⟩
      rw [h_oc] at cc cc'
      clear h_oc
      obtain ⟨ll, h_ll⟩ : ∃ q, liveL nw rb = q := ⟨_, rfl⟩
      rw [h_ll] at cl cl' hl4
      clear h_ll
      obtain ⟨rm, h_rm⟩ : ∃ q, roomI rb nw kw = q := ⟨_, rfl⟩
      rw [h_rm] at cm cm'
      clear h_rm
      obtain ⟨lv, h_lv⟩ : ∃ q, revokeL fw rb = q := ⟨_, rfl⟩
      rw [h_lv] at cv cv' hl5
      clear h_lv
      obtain ⟨ms, h_ms⟩ : ∃ q, mostI kw = q := ⟨_, rfl⟩
      rw [h_ms] at cs cs'
      clear h_ms
      obtain ⟨lf, h_lf⟩ : ∃ q, lifeI kw = q := ⟨_, rfl⟩
      rw [h_lf] at ce ce'
      clear h_lf
      have kk := HK.out.now
      have c1 := Lib.hid (cp.out _ kk.1.1)
      have hy := kk.1.2
      clear cp kk
      go_wp2_with (refine wpList_load_rec rfl _ rfl ⟨wr.heap.size, 0, none⟩ rfl y (blk_rec hy) ?_)
      refine c1.out.mono ?_
      rintro _ w3 ⟨v, rfl, hown, hbn⟩
      obtain ⟨Ap, dp, rfl, hr3⟩ := RecsAt.own hown (by omega)
      have HK := Lib.hid (HK.out.next hbn hr3.keeps)
      clear hown hbn hr3 c1 hy
      have kk := HK.out.now
      have c1 := Lib.hid (cp'.out _ kk.1.1.1)
      have hy := kk.1.1.2
      clear cp' kk
      go_wp2_with (refine wpList_load_rec rfl _ rfl ⟨wr.heap.size, 0, none⟩ rfl y (blk_rec hy) ?_)
      refine c1.out.mono ?_
      rintro _ w4 ⟨Aq, dq, rfl, hr3, hbn⟩
      have HK := Lib.hid (HK.out.next hbn hr3.keeps)
      clear hbn hr3 c1 hy
      have kk := HK.out.now
      have c1 := Lib.hid (ct.out _ kk.1.1.1.1)
      clear ct kk
      go_wp2_with fail
      refine c1.out.mono ?_
      rintro _ w5 ⟨v, rfl, hown, hbn⟩
      obtain ⟨At, dt, rfl, hr3⟩ := RecsAt.own hown (by omega)
      have HK := Lib.hid (HK.out.next hbn hr3.keeps)
      clear hown hbn hr3 c1
      have HK := Lib.hid (HK.out.next ((Below.refl w5.heap.size w5).alloc (Nat.le_refl _) (.cells (o.getD Rc.none).arr 32)) (Blk.new w5 32 (o.getD Rc.none).arr).keeps)
      have kk := HK.out.now
      have c1 := Lib.hid (ct'.out _ kk.1.1.1.1.1.1)
      clear ct' kk
      go_wp2_with (refine wpList_store_fresh w5 rfl 32 _ _ rfl _ (o.getD Rc.none).arr _ rfl rfl rfl rec_size (Rc.ones _) ?_)
      refine c1.out.mono ?_
      rintro _ w6 ⟨Ad, dd, rfl, hr3, hbn⟩
      have HK := Lib.hid (HK.out.next hbn hr3.keeps)
      clear hbn hr3 c1
      have HK := Lib.hid (HK.out.next ((Below.refl w6.heap.size w6).alloc (Nat.le_refl _) (.cells (o.getD Rc.none).arr 32)) (Blk.new w6 32 (o.getD Rc.none).arr).keeps)
      have kk := HK.out.now
      have c1 := Lib.hid (cc.out _ kk.1.1.1.1.1.1.1.1)
      have hy := kk.1.1.1.1.1.1.1.2
      clear cc kk
      go_wp2_with (first | (refine wpList_load_rec rfl _ rfl ⟨wr.heap.size, 0, none⟩ rfl y (blk_rec hy) ?_) | (refine wpList_store_fresh w6 rfl 32 _ _ rfl _ (o.getD Rc.none).arr _ rfl rfl rfl rec_size (Rc.ones _) ?_))
      refine c1.out.mono ?_
      rintro _ w7 ⟨v, rfl, hown, hbn⟩
      obtain ⟨Au, du, rfl, hr3⟩ := RecsAt.own hown (by omega)
      have HK := Lib.hid (HK.out.next hbn hr3.keeps)
      clear hown hbn hr3 c1 hy
      have kk := HK.out.now
      have c1 := Lib.hid (cc'.out _ kk.1.1.1.1.1.1.1.1.1)
      have hy := kk.1.1.1.1.1.1.1.1.2
      clear cc' kk
      go_wp2_with (refine wpList_load_rec rfl _ rfl ⟨wr.heap.size, 0, none⟩ rfl y (blk_rec hy) ?_)
      refine c1.out.mono ?_
      rintro _ w8 ⟨Av, dv, rfl, hr3, hbn⟩
      have HK := Lib.hid (HK.out.next hbn hr3.keeps)
      clear hbn hr3 c1 hy
      have kk := HK.out.now
      have c1 := Lib.hid (cf.out _ kk.1.1.1.1.1.1.1.1.1.1)
      clear cf kk
      go_wp2_with fail
      refine c1.out.mono ?_
      rintro _ w9 ⟨rfl, hbn⟩
      have HK := Lib.hid (HK.out.on hbn)
      clear hbn c1
      have HK := Lib.hid (HK.out.next ((Below.refl w9.heap.size w9).alloc (Nat.le_refl _) (.cells (o.getD Rc.none).arr 32)) (Blk.new w9 32 (o.getD Rc.none).arr).keeps)
      have kk := HK.out.now
      have c1 := Lib.hid (cf'.out _ kk.1.1.1.1.1.1.1.1.1.1.1)
      clear cf' kk
      go_wp2_with (refine wpList_store_fresh w9 rfl 32 _ _ rfl _ (o.getD Rc.none).arr _ rfl rfl rfl rec_size (Rc.ones _) ?_)
      refine c1.out.mono ?_
      rintro _ w10 ⟨rfl, hbn⟩
      have HK := Lib.hid (HK.out.on hbn)
      clear hbn c1
      have HK := Lib.hid (HK.out.next ((Below.refl w10.heap.size w10).alloc (Nat.le_refl _) (.cells (o.getD Rc.none).arr 32)) (Blk.new w10 32 (o.getD Rc.none).arr).keeps)
      go_upto_region 22 with (refine wpList_store_fresh w10 rfl 32 _ _ rfl _ (o.getD Rc.none).arr _ rfl rfl rfl rec_size (Rc.ones _) ?_)
      simp only [List.append_eq, List.cons_append, List.nil_append]
      go_wp2_with fail
      have h_ni : ∀ q : Int, (q != q) = false := fun q => by simp
      have h_nb : ∀ q : Bool, (q != q) = false := fun q => by simp
      have hnq : ∀ W, (binOp .neq 32 (.agg (o.getD Rc.none).arr) (.agg (o.getD Rc.none).arr)).run Try.prog W = .ok (.bool false) W := fun W => by rw [neq_rec]; simp
      have hqg : Try.prog.eqGuardType Try.prog.depth 32 = false := by kernel_rfl
      have kk := HK.out.now
      refine (same_self lp Ap Aq dp dq _ kk.1.1.1.1.1.1.1.1.1.2 kk.1.1.1.1.1.1.1.1.2).mono ?_
      rintro _ w11 ⟨rfl, hbn⟩
      have HK := Lib.hid (HK.out.on hbn)
      clear hbn kk
      have kk := HK.out.now
      have c1 := Lib.hid (same_self lt At Ad dt dd _ kk.1.1.1.1.1.1.1.2 kk.1.1.1.1.1.2)
      clear kk
      go_wp2_with fail
      refine c1.out.mono ?_
      rintro _ w12 ⟨rfl, hbn⟩
      have HK := Lib.hid (HK.out.on hbn)
      clear hbn c1
      have kk := HK.out.now
      have c1 := Lib.hid (same_self lc Au Av du dv _ kk.1.1.1.2 kk.1.1.2)
      have hp := kk.1.1.1.1.1.1.2
      have hq := kk.1.1.1.1.2
      clear kk
      go_wp2_with (first | (refine wpList_load_recG (by kernel_rfl) _ rfl ⟨w5.heap.size, 0, none⟩ rfl (o.getD Rc.none) (blk_rec hp) ?_) | (refine wpList_load_recG (by kernel_rfl) _ rfl ⟨w6.heap.size, 0, none⟩ rfl (o.getD Rc.none) (blk_rec hq) ?_))
      refine c1.out.mono ?_
      rintro _ w13 ⟨rfl, hbn⟩
      have HK := Lib.hid (HK.out.on hbn)
      clear hbn c1 hp hq
      have kk := HK.out.now
      have c1 := Lib.hid (cl.out _ kk.1.1.1.1.1.1.1.1.1.1.1.1)
      have hp := kk.1.2
      have hq := kk.2
      clear kk cl
      go_wp2_with (first | (refine wpList_load_recG (by kernel_rfl) _ rfl ⟨w9.heap.size, 0, none⟩ rfl (o.getD Rc.none) (blk_rec hp) ?_) | (refine wpList_load_recG (by kernel_rfl) _ rfl ⟨w10.heap.size, 0, none⟩ rfl (o.getD Rc.none) (blk_rec hq) ?_))
      refine c1.out.mono ?_
      rintro _ w14 ⟨v, rfl, hown, hbn⟩
      obtain ⟨Al, dl, rfl, hr3⟩ := RecsAt.own hown (by omega)
      have HK := Lib.hid (HK.out.next hbn hr3.keeps)
      clear hbn c1 hp hq hown hr3
      have kk := HK.out.now
      have c1 := Lib.hid (cl'.out _ kk.1.1.1.1.1.1.1.1.1.1.1.1.1)
      clear kk cl'
      go_wp2_with fail
      refine c1.out.mono ?_
      rintro _ w15 ⟨v, rfl, hown, hbn⟩
      obtain ⟨Am, dm, rfl, hr3⟩ := RecsAt.own hown (by omega)
      have HK := Lib.hid (HK.out.next hbn hr3.keeps)
      clear hbn c1 hown hr3
      have kk := HK.out.now
      have c1 := Lib.hid (same_self ll Al Am dl dm _ kk.1.2 kk.2)
      clear kk
      go_wp2_with fail
      refine c1.out.mono ?_
      rintro _ w16 ⟨rfl, hbn⟩
      have HK := Lib.hid (HK.out.on hbn)
      clear hbn c1
      have kk := HK.out.now
      have c1 := Lib.hid (cm.out _ kk.1.1.1.1.1.1.1.1.1.1.1.1.1.1)
      clear kk cm
      go_wp2_with fail
      refine c1.out.mono ?_
      rintro _ w17 ⟨rfl, hbn⟩
      have HK := Lib.hid (HK.out.on hbn)
      clear hbn c1
      have kk := HK.out.now
      have c1 := Lib.hid (cm'.out _ kk.1.1.1.1.1.1.1.1.1.1.1.1.1.1)
      clear kk cm'
      go_wp2_with fail
      refine c1.out.mono ?_
      rintro _ w18 ⟨rfl, hbn⟩
      have HK := Lib.hid (HK.out.on hbn)
      clear hbn c1
      have kk := HK.out.now
      have c1 := Lib.hid (cv.out _ kk.1.1.1.1.1.1.1.1.1.1.1.1.1.1)
      clear kk cv
      go_wp2_with fail
      refine c1.out.mono ?_
      rintro _ w19 ⟨v, rfl, hown, hbn⟩
      obtain ⟨Ar', dr', rfl, hr3⟩ := RecsAt.own hown (by omega)
      have HK := Lib.hid (HK.out.next hbn hr3.keeps)
      clear hbn c1 hown hr3
      have kk := HK.out.now
      have c1 := Lib.hid (cv'.out _ kk.1.1.1.1.1.1.1.1.1.1.1.1.1.1.1)
      clear kk cv'
      go_wp2_with fail
      refine c1.out.mono ?_
      rintro _ w20 ⟨v, rfl, hown, hbn⟩
      obtain ⟨As', ds', rfl, hr3⟩ := RecsAt.own hown (by omega)
      have HK := Lib.hid (HK.out.next hbn hr3.keeps)
      clear hbn c1 hown hr3
      have kk := HK.out.now
      have c1 := Lib.hid (same_self lv Ar' As' dr' ds' _ kk.1.2 kk.2)
      clear kk
      go_wp2_with fail
      refine c1.out.mono ?_
      rintro _ w21 ⟨rfl, hbn⟩
      have HK := Lib.hid (HK.out.on hbn)
      clear hbn c1
      have c1 := Lib.hid (cs.out)
      clear cs
      go_wp2_with fail
      refine (c1.out _).mono ?_
      rintro _ w22 ⟨rfl, hbn⟩
      have HK := Lib.hid (HK.out.on hbn)
      clear hbn c1
      have c1 := Lib.hid (cs'.out)
      clear cs'
      go_wp2_with fail
      refine (c1.out _).mono ?_
      rintro _ w23 ⟨rfl, hbn⟩
      have HK := Lib.hid (HK.out.on hbn)
      clear hbn c1
      have c1 := Lib.hid (ce.out)
      clear ce
      go_wp2_with fail
      refine (c1.out _).mono ?_
      rintro _ w24 ⟨rfl, hbn⟩
      have HK := Lib.hid (HK.out.on hbn)
      clear hbn c1
      have c1 := Lib.hid (ce'.out)
      clear ce'
      go_wp2_with fail
      refine (c1.out _).mono ?_
      rintro _ w25 ⟨rfl, hbn⟩
      have HK := Lib.hid (HK.out.on hbn)
      clear hbn c1
      have kk := HK.out.now
      have hsaN := Lib.hid (kk.1.1.1.1.1.1.1.1.1.1.1.1.1.1.2)
      clear kk
      go_wp2_with fail
      exact ⟨⟨2, k2, by omega, by go_num, hsaN⟩, by simp [intOf]⟩
    · go_wp2_with fail
      go_ret
      exact ⟨rfl, hsa.out.2.2.2.2.1⟩
end Go.Proofs.Ytbkembafdhjbkaa
