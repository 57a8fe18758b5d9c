/- countersignlaw11.URI: one of numbers that may be. No condition of its own. -/
import Derived.Test.YtolfcpbcccbmmaaGreatDoorUl
set_option linter.unusedVariables false
set_option linter.unusedSimpArgs false
set_option maxRecDepth 20000
namespace Go.Proofs.YtolfcpbcccbmmaaGreatDoor
open Go.RowKit Pc
def hostL : List ByteArray := [⟨#[97, 115]⟩, ⟨#[99, 49]⟩, ⟨#[99, 50]⟩, ⟨#[114, 115]⟩, ⟨#[97, 116]⟩, ⟨#[97, 45, 49, 46, 98]⟩, ⟨#[48]⟩]
def pathL : List ByteArray := [⟨#[47]⟩, ⟨#[47, 99, 98]⟩, ⟨#[47, 115, 116, 97, 114, 116]⟩, ⟨#[47, 97, 117, 116, 104, 111, 114, 105, 122, 101]⟩, ⟨#[47, 97, 47, 98, 47, 47]⟩, ⟨#[47, 126, 120, 95, 49, 46, 50, 45, 51]⟩]
theorem hostL_ok : ∀ x ∈ hostL, hostB x.data.toList = true ∧ x.data.toList.length ≤ 5 := by decide +kernel
theorem pathL_ok : ∀ x ∈ pathL, pathB x.data.toList = true ∧ x.data.toList.length ≤ 10 := by decide +kernel
theorem sumF_leB {fs : List Fl} {m : Nat} (h : ∀ f ∈ fs, f.n.length + f.v.length ≤ m) : sumF fs ≤ m * fs.length := by
  induction fs with
  | nil => simp [sumF]
  | cons f fs ih =>
    have h1 := h f List.mem_cons_self
    have h2 := ih (fun g hg => h g (List.mem_cons_of_mem _ hg))
    rw [sumF_cons, List.length_cons, Nat.mul_succ]
    omega
/-- an address that may be comes back -/
def UriW (w : World) (e : Ending) (w' : World) : Prop := ∃ (u : Ur) (A : Option Addr) (c : Nat), e = .returned (.agg (u.arr A c)) ∧ mayB u = true ∧ UrAt w' A c u ∧ Below w.heap.size w w'
/-- the same, its query a row of its own -/
def UriW2 (w : World) (e : Ending) (w' : World) : Prop := ∃ (u : Ur) (A : Option Addr) (c : Nat), e = .returned (.agg (u.arr A c)) ∧ mayB u = true ∧ UrAt w' A c u ∧ w'.ownsRow w.heap.size 57 2 (.slice A u.q.length c) u.q.length (fCells u.q) ∧ Below w.heap.size w w'
theorem results_ur1 {fn : Func} {p : Tmp} (h : fn.results = #[.cell p 28]) (tmps : Array Value) (w : World) (g : Nat) (u : Ur) (A : Option Addr) (c : Nat)
    (hp : tmps.getD p undef = .pointer (some ⟨g, 0, none⟩)) (hb : Blk w g 28 (u.arr A c)) : (results fn tmps).run Tryz.prog w = .ok (.agg (u.arr A c)) w := by
  have hp' : tmps[p]?.getD undef = .pointer (some ⟨g, 0, none⟩) := by simpa using hp
  simp [results, h, hp', asAddr, run_loadVar_row w g 28 28 (u.arr A c) (0, 0) _ hb Tryz.underlying28 rfl ur_size]
set_option maxHeartbeats 8000000 in
theorem uri2_walk (zs : List Int) (A : Option Addr) (c : Nat) (w : World) (hr : IntsIn w A c zs) :
    Calls Tryz.prog 15 #[.slice A zs.length c] w (UriW2 w) := by
  have hz : (#[.string ⟨#[]⟩, .string ⟨#[]⟩, .slice none 0 0] : Array Value) = (Ur.mk [] [] []).arr none 0 := rfl
  have hb0 := (Below.refl w.heap.size w).alloc (Nat.le_refl _) (.cells ((Ur.mk [] [] []).arr none 0) 28)
  have hK0 := Blk.new w 28 ((Ur.mk [] [] []).arr none 0)
  have hr0 := hr.below ((Below.refl w.heap.size w).alloc (Nat.le_refl _) (.cells ((Ur.mk [] [] []).arr none 0) 28))
  have hT := tape_new hr0
  have hs0 : (w.alloc (.cells ((Ur.mk [] [] []).arr none 0) 28)).heap.size = w.heap.size + 1 := by simp
  rw [hs0] at hT
  have HB1 := Lib.hid (hb0.alloc hb0.size (.cells #[.slice A zs.length c, .int .i64 0] 41))
  have HK1 := Lib.hid (hK0.alloc (.cells #[.slice A zs.length c, .int .i64 0] 41))
  have HT1 := Lib.hid hT
  have H := Lib.hid hr
  clear hr hr0 hT hb0 hK0 hs0
  generalize hW1 : (w.alloc (.cells ((Ur.mk [] [] []).arr none 0) 28)).alloc (.cells #[.slice A zs.length c, .int .i64 0] 41) = W1 at HB1 HK1 HT1
  have hs1 : W1.heap.size = w.heap.size + 1 + 1 := by rw [← hW1]; simp
  have HW1 := Lib.hid hW1
  have hrow := reads_row W1 9 (hostL.map Value.string)
  rw [hs1] at hrow
  clear hW1
  go_enter Tryz.func15, Tryz.ntmps15
  go_wp2_with fail
  rw [HW1.out]
  refine (pick_walk zs (w.heap.size + 1) 0 _ 7 (w.heap.size + 1 + 1 + 1) hostL (by decide) (by decide) (by decide) _ ?ht hrow ?hB ?hne).mono ?_
  case ht => exact HT1.out.grown (only_alloc (only_refl _ none) _) (fun r e => by cases e)
  case hB => simp; omega
  case hne => intro p e; injection e with e; subst e; simp
  have hrp := nextR_pos zs 0 hostL.length (by decide)
  have hx := hostL_ok _ (getD_mem (L := hostL) (r := (nextR zs 0 hostL.length).toNat) (by omega))
  generalize hostL.getD (nextR zs 0 hostL.length).toNat ByteArray.empty = x at hx
  obtain ⟨xl, rfl⟩ := str_of x
  rw [show (⟨xl.toArray⟩ : ByteArray).data.toList = xl by simp] at hx
  rintro _ w2 ⟨rfl, ht2, hg2, hs2⟩
  generalize nextA zs 0 hostL.length = k2 at ht2
  have hB2 := ((HB1.out.alloc HB1.out.size _).grown hg2 (by have := HB1.out.size; simp; omega) (fun r e => by injection e with e; omega))
  have HB2 := Lib.hid hB2
  have HK2 := Lib.hid ((HK1.out.alloc _).grown hg2 (fun e => by injection e with e; omega))
  have HT2 := Lib.hid ht2
  have HX := Lib.hid hx
  have hgl2 := ht2.lt
  clear ht2 hg2 hs2 hB2 hrp hx hrow HB1 HK1 HT1 HW1
  go_wp2_with fail
  refine (pick_walk zs (w.heap.size + 1) k2 _ 6 (w2.heap.size + 1) pathL (by decide) (by decide) (by decide) _ ?ht2 (reads_row w2 9 (pathL.map Value.string)) ?hB2 ?hne2).mono ?_
  case ht2 => exact HT2.out.grown (only_alloc (only_refl _ none) _) (fun r e => by cases e)
  case hB2 => simp
  case hne2 => intro p e; injection e with e; subst e; simp; omega
  have hrp := nextR_pos zs k2 pathL.length (by decide)
  have hy := pathL_ok _ (getD_mem (L := pathL) (r := (nextR zs k2 pathL.length).toNat) (by omega))
  generalize pathL.getD (nextR zs k2 pathL.length).toNat ByteArray.empty = y at hy
  obtain ⟨yl, rfl⟩ := str_of y
  rw [show (⟨yl.toArray⟩ : ByteArray).data.toList = yl by simp] at hy
  rintro _ w3 ⟨rfl, ht3, hg3, hs3⟩
  generalize nextA zs k2 pathL.length = k3 at ht3
  have hB3 := ((HB2.out.alloc HB2.out.size _).grown hg3 (by have := HB2.out.size; simp; omega) (fun r e => by injection e with e; omega))
  have HB3 := Lib.hid hB3
  have HK3 := Lib.hid ((HK2.out.alloc _).grown hg3 (fun e => by injection e with e; omega))
  have HY := Lib.hid hy
  have cn := Lib.hid (next_walk zs (w.heap.size + 1) k3 6 w3 ht3 (by omega))
  have hnp := nextR_pos zs k3 6 (by omega)
  obtain ⟨r, er⟩ : ∃ r : Nat, nextR zs k3 6 = r := ⟨(nextR zs k3 6).toNat, by omega⟩
  rw [er] at cn hnp
  have hr6 : r ≤ 5 := by omega
  clear ht3 hg3 hs3 hB3 hrp hy er hnp HB2 HK2 HT2 hgl2
  go_wp2_with fail
  refine cn.out.mono ?_
  rintro _ w4 ⟨rfl, ht4, hg4, hs4⟩
  have hB4 := HB3.out.grown hg4 HB3.out.size (fun r e => by injection e with e; omega)
  have HB4 := Lib.hid hB4
  have HK4 := Lib.hid (HK3.out.grown hg4 (fun e => by injection e with e; omega))
  clear ht4 hg4 hs4 hB4 cn HB3 HK3
  go_wp2_with fail
  refine (fields_walk zs A c r (by omega) w4 (H.out.below HB4.out)).mono ?_
  rintro _ w5 ⟨v, fs, rfl, hown, hU, hl, hsm, hbn⟩
  obtain ⟨A5, c5, rfl, hf5⟩ := FsAt.own hown (by omega)
  have HO := Lib.hid hown
  have HB5 := Lib.hid (below_next HB4.out hbn)
  have HK5 := Lib.hid (HK4.out.below hbn HK4.out.lt)
  have hlt4 := HK4.out.lt
  have hsum : sumF fs ≤ 18 * fs.length := sumF_leB (fun f hf => by have := hsm f hf; omega)
  have HM : Hid (mayB ⟨xl, yl, fs⟩ = true) := by
    refine mayB_of HX.out.1 HY.out.1 (show fs.length ≤ 24 by omega) hU ?_
    have h1 := target_len ⟨xl, yl, fs⟩
    have h2 := HX.out.2
    have h3 := HY.out.2
    simp only at h1 ⊢
    omega
  clear hown hbn hU hsm hf5 HB4 HK4
  clear hz
  go_wp2_with (refine wpList_store_blk rfl 28 _ _ rfl w.heap.size ((Ur.mk [] [] []).arr none 0) ((Ur.mk xl yl fs).arr A5 c5) _ rfl rfl HK5.out rfl ur_size (ones3 _ _ _) ?_)
  refine bodyPost_ret (results_ur1 Tryz.results15 _ _ w.heap.size _ _ _ rfl HK5.out.setRow) rfl ?_
  have hwl4 : w.heap.size ≤ w4.heap.size := by omega
  have hown6 := World.ownsRow.kept HO.out (setRow_only w5 w.heap.size ((Ur.mk xl yl fs).arr A5 c5)) (.inr (fun e => by have := (World.ownsRow.lt HO.out _ e).1; omega))
  refine ⟨⟨xl, yl, fs⟩, A5, c5, rfl, HM.out, ⟨?_, ?_, ?_, ?_⟩, World.ownsRow.mono hown6 hwl4, below_setRow HB5.out (Nat.le_refl _) _⟩
  · obtain ⟨A6, c6, e6, hf6⟩ := FsAt.own hown6 (by omega)
    injection e6 with eA _ ec
    subst eA ec
    exact hf6
  · have := HX.out.2; show xl.length ≤ 10000; omega
  · have := HY.out.2; show yl.length ≤ 10000; omega
  · show sumF fs ≤ 10000; omega
theorem uri_walk (zs : List Int) (A : Option Addr) (c : Nat) (w : World) (hr : IntsIn w A c zs) :
    Calls Tryz.prog 15 #[.slice A zs.length c] w (UriW w) :=
  (uri2_walk zs A c w hr).mono fun e w' ⟨u, A2, c2, h1, h2, h3, _, h5⟩ => ⟨u, A2, c2, h1, h2, h3, h5⟩
end Go.Proofs.YtolfcpbcccbmmaaGreatDoor
