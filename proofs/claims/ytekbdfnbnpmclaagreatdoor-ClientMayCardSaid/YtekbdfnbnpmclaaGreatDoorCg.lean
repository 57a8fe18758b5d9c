/- countersignlaw17.Client: one off the tape. No condition of its own. Printed by wip/tools/genCg.py. -/
import Derived.Test.YtekbdfnbnpmclaaGreatDoorCf
import Derived.Deep.DeepCutAuto
import Derived.Deep.RegionHeld3
set_option linter.unusedVariables false
set_option linter.unusedSimpArgs false
set_option maxRecDepth 20000
namespace Go.Proofs.YtekbdfnbnpmclaaGreatDoor
open Go.RowKit Pc
def rowsC1 : List ByteArray := [⟨#[99, 49]⟩, ⟨#[99, 50]⟩, ⟨#[99, 120]⟩, ⟨#[112]⟩, ⟨#[]⟩, ⟨#[97, 32, 98]⟩]
def rowsC2 : List ByteArray := [⟨#[104, 116, 116, 112, 115, 58, 47, 47, 99, 49, 47, 99, 98]⟩, ⟨#[104, 116, 116, 112, 115, 58, 47, 47, 99, 50, 47, 99, 98]⟩, ⟨#[104, 116, 116, 112, 115, 58, 47, 47, 97, 116, 47, 99, 98]⟩, ⟨#[104, 116, 116, 112, 115, 58, 47, 47, 99, 49, 47, 99, 98, 63, 97, 61, 98]⟩, ⟨#[104, 116, 116, 112, 115, 58, 47, 47, 99, 49]⟩, ⟨#[120]⟩]
abbrev cC1 : Array Value := #[.string ⟨#[99, 49]⟩, .string ⟨#[99, 50]⟩, .string ⟨#[99, 120]⟩, .string ⟨#[112]⟩, .string ⟨#[]⟩, .string ⟨#[97, 32, 98]⟩]
abbrev cC2 : Array Value := #[.string ⟨#[104, 116, 116, 112, 115, 58, 47, 47, 99, 49, 47, 99, 98]⟩, .string ⟨#[104, 116, 116, 112, 115, 58, 47, 47, 99, 50, 47, 99, 98]⟩, .string ⟨#[104, 116, 116, 112, 115, 58, 47, 47, 97, 116, 47, 99, 98]⟩, .string ⟨#[104, 116, 116, 112, 115, 58, 47, 47, 99, 49, 47, 99, 98, 63, 97, 61, 98]⟩, .string ⟨#[104, 116, 116, 112, 115, 58, 47, 47, 99, 49]⟩, .string ⟨#[120]⟩]
abbrev cCi : Array Value := #[.int .i64 0, .int .i64 4, .int .i64 5, .int .i64 6, .int .i64 300, .int .i64 (-1)]
abbrev cCz : Array Value := #[.string ⟨#[]⟩, .int .i64 0, .slice none 0 0, .string ⟨#[]⟩]
def secC (r : Nat) : Int := [0, 4, 5, 6, 300, -1].getD r 0
theorem secC_ok : ∀ r, r < 6 → -1 ≤ secC r ∧ secC r ≤ 300 := by decide
theorem rowsC1_all : ∀ r : Fin 6, ((rowsC1.getD r.val ByteArray.empty).data.toList).length ≤ 3 := by decide +kernel
theorem rowsC2_all : ∀ r : Fin 6, 1 ≤ ((rowsC2.getD r.val ByteArray.empty).data.toList).length ∧ ((rowsC2.getD r.val ByteArray.empty).data.toList).length ≤ 18 := by decide +kernel
theorem rowsC1_ok (zs : List Int) (k : Nat) : ∃ xl : List UInt8, rowsC1.getD (nextR zs k rowsC1.length).toNat ByteArray.empty = ⟨xl.toArray⟩ ∧ xl.length ≤ 3 := by
  have h := nextR_pos zs k rowsC1.length (by decide)
  have hl : (rowsC1.length : Int) = 6 := rfl
  exact ⟨_, (str_eta _ _ rfl), rowsC1_all ⟨(nextR zs k rowsC1.length).toNat, by omega⟩⟩
theorem rowsC2_ok (zs : List Int) (k : Nat) : ∃ xl : List UInt8, rowsC2.getD (nextR zs k rowsC2.length).toNat ByteArray.empty = ⟨xl.toArray⟩ ∧ (1 ≤ xl.length ∧ xl.length ≤ 18) := by
  have h := nextR_pos zs k rowsC2.length (by decide)
  have hl : (rowsC2.length : Int) = 6 := rfl
  exact ⟨_, (str_eta _ _ rfl), rowsC2_all ⟨(nextR zs k rowsC2.length).toNat, by omega⟩⟩
theorem next6 (zs : List Int) (k : Nat) : ∃ r : Nat, nextR zs k 6 = r ∧ r < 6 := by
  have := nextR_pos zs k 6 (by omega)
  exact ⟨(nextR zs k 6).toNat, by omega, by omega⟩
theorem ints_all : ∀ r, r < 6 → cCi[r]? = some (.int .i64 (secC r)) := by
  intro r hr
  match r, hr with
  | 0, _ => rfl
  | 1, _ => rfl
  | 2, _ => rfl
  | 3, _ => rfl
  | 4, _ => rfl
  | 5, _ => rfl
theorem ints_cell {W : World} {b : Nat} {t : TypeId} (h : Blk W b t cCi) (r : Nat) (hr : r < 6) : W.cell? ⟨b, r, none⟩ = some (.int .i64 (secC r)) := by
  rw [h.cell r]
  exact ints_all r hr
theorem reads_blk {W : World} {b : Nat} {t : TypeId} {us : List Value} (h : Blk W b t us.toArray) : Reads W (b + 1) 1 (some ⟨b, 0, none⟩) us.length us := by
  refine ⟨by simp, fun _ => ⟨⟨b, 0, none⟩, rfl, Nat.lt_succ_self b, fun j u hu => ?_⟩⟩
  rw [show ((⟨b, 0, none⟩ : Addr).add j) = ⟨b, j, none⟩ by unfold Addr.add; split <;> simp_all, h.cell j]
  simpa using hu
theorem only_own {a w w' : World} {g : Nat} {row : Option Nat} (h : a.grownBy w (some g)) (k : w.grownBy w' row) (hr : ∀ r, row = some r → a.heap.size ≤ r) : a.grownBy w' (some g) :=
  ⟨k.os.trans h.os, k.tape.trans h.tape, k.output.trans h.output, Nat.le_trans h.size k.size, fun i hi hne => (k.block i (by have := h.size; omega) (fun e => by have := hr i e.symm; omega)).trans (h.block i hi hne)⟩
theorem mem_snoc {red : List (List UInt8)} {y : List UInt8} (h : ∀ p ∈ red, 1 ≤ p.length ∧ p.length ≤ 18) (hy : 1 ≤ y.length ∧ y.length ≤ 18) : ∀ p ∈ red ++ [y], 1 ≤ p.length ∧ p.length ≤ 18 := by
  intro p hp
  rcases List.mem_append.1 hp with h1 | h1
  · exact h p h1
  · rw [List.mem_singleton] at h1; rw [h1]; exact hy
/-- a client off the tape -/
def OffC (f : Cl) : Prop := f.id.length ≤ 3 ∧ f.sc.length ≤ 34 ∧ (-1 ≤ f.sec ∧ f.sec ≤ 300) ∧ (1 ≤ f.red.length ∧ f.red.length ≤ 4) ∧ ∀ p ∈ f.red, 1 ≤ p.length ∧ p.length ≤ 18
def ClientR (zs : List Int) (g : Nat) (w : World) (e : Ending) (w' : World) : Prop :=
  ∃ (f : Cl) (k : Nat), e = .returned (.agg f.arr) ∧ OffC f ∧ w'.ownsRow w.heap.size 9 1 (.slice f.ra f.red.length f.rc) f.red.length (strVs f.red) ∧ TapeAt w' g zs k ∧ w.grownBy w' (some g)
theorem cl_zero : (#[.string ⟨#[]⟩, .int .i64 0, .slice none 0 0, .string ⟨#[]⟩] : Array Value) = clZ.arr := rfl
theorem info_str : (Tryz.prog.info? 9).map (fun i => (i.zero, i.size, i.bytes)) = some (some (.string ⟨#[]⟩), 1, 16) := by kernel_rfl
/-- what is known of the world: the tape, what is older, and the result's block -/
def StC (zs : List Int) (g : Nat) (w : World) (k : Nat) (W : World) : Prop := TapeAt W g zs k ∧ w.grownBy W (some g) ∧ Blk W w.heap.size 31 clZ.arr ∧ g < w.heap.size
/-- what was made since -/
def MadeC (g : Nat) (w : World) (W : World) (b : Nat) (t : TypeId) (cs : Array Value) : Prop := Blk W b t cs ∧ g < b ∧ w.heap.size < b
section
variable {zs : List Int} {g k k' b : Nat} {w W W' : World} {t t' : TypeId} {cs cs' : Array Value}
theorem StC.tape (h : StC zs g w k W) : TapeAt W g zs k := h.1
theorem StC.alloc (h : StC zs g w k W) (o : Obj) : StC zs g w k (W.alloc o) := ⟨h.1.grown (only_alloc (only_refl W none) o) (fun r e => by cases e), only_alloc h.2.1 o, h.2.2.1.alloc o, h.2.2.2⟩
theorem StC.call (h : StC zs g w k W) (ht : TapeAt W' g zs k') (hg : W.grownBy W' (some g)) : StC zs g w k' W' := ⟨ht, only_trans h.2.1 hg, h.2.2.1.grown hg (fun e => by injection e with e; have := h.2.2.2; omega), h.2.2.2⟩
theorem StC.made (h : StC zs g w k W) (t : TypeId) (cs : Array Value) : MadeC g w (W.alloc (.cells cs t)) W.heap.size t cs := ⟨Blk.new W t cs, h.1.lt, h.2.2.1.lt⟩
theorem MadeC.blk (h : MadeC g w W b t cs) : Blk W b t cs := h.1
theorem MadeC.lt (h : MadeC g w W b t cs) : b + 1 ≤ W.heap.size := h.1.lt
theorem MadeC.ne (h : MadeC g w W b t cs) : ∀ p : Addr, (some ⟨b, 0, none⟩ : Option Addr) = some p → p.block ≠ g := fun p e => by injection e with e; subst e; show b ≠ g; have := h.2.1; omega
theorem MadeC.alloc (h : MadeC g w W b t cs) (o : Obj) : MadeC g w (W.alloc o) b t cs := ⟨h.1.alloc o, h.2⟩
theorem MadeC.call (h : MadeC g w W b t cs) (hg : W.grownBy W' (some g)) : MadeC g w W' b t cs := ⟨h.1.grown hg (fun e => by injection e with e; have := h.2.1; omega), h.2⟩
theorem MadeC.unlike {b' : Nat} (h : MadeC g w W b 3 cs) (h' : MadeC g w W b' 31 cs') : some b ≠ some b' := fun e => by injection e with e; exact (h.1.ne_ h'.1 (by decide)) e
end
/-- behind the first statement -/
def CliMid (zs : List Int) (g : Nat) (w : World) (v : Value) (W : World) : Prop :=
  ∃ (b k : Nat) (xl sl : List UInt8) (z : Int), v = .pointer (some ⟨b, 0, none⟩) ∧ w.heap.size < b ∧ xl.length ≤ 3 ∧ sl.length ≤ 34 ∧ (-1 ≤ z ∧ z ≤ 300) ∧ Blk W b 31 (Cl.mk xl z [] sl none 0).arr ∧ StC zs g w k W
theorem CliMid.of {zs : List Int} {g k b r : Nat} {w W : World} {cs : Array Value} {xl sl : List UInt8} (hs : StC zs g w k W) (hb : MadeC g w W b 31 cs) (hx : xl.length ≤ 3) (hsl : (⟨sl.toArray⟩ : ByteArray).size ≤ 34) (hr : r < 6) :
    CliMid zs g w (.pointer (some ⟨b, 0, none⟩)) (W.setRow b (Cl.mk xl (secC r) [] sl none 0).arr) := by
  have h1 := hb.2.1
  have h2 := hb.2.2
  have hg := setRow_only W b (Cl.mk xl (secC r) [] sl none 0).arr
  exact ⟨b, k, xl, sl, secC r, rfl, h2, hx, by rw [size_mks] at hsl; exact hsl, secC_ok r hr, hb.1.setRow, hs.1.grown hg (fun r e => by injection e with e; omega), K9.only_setRow hs.2.1 (by omega) _, hs.2.2.1.grown hg (fun e => by injection e with e; omega), hs.2.2.2⟩
/-- within the loop -/
def StL (zs : List Int) (g : Nat) (w : World) (b k : Nat) (xl sl : List UInt8) (z : Int) (red : List (List UInt8)) (ra : Option Addr) (rc : Nat) (W : World) : Prop :=
  Blk W b 31 (Cl.mk xl z red sl ra rc).arr ∧ W.ownsRow (b + 1) 9 1 (.slice ra red.length rc) red.length (strVs red) ∧ StC zs g w k W ∧ w.heap.size < b ∧ red.length ≤ 4 ∧ ∀ p ∈ red, 1 ≤ p.length ∧ p.length ≤ 18
section
variable {zs : List Int} {g k k' b : Nat} {w W W' : World} {t t' : TypeId} {cs cs' : Array Value} {xl sl : List UInt8} {z : Int} {red : List (List UInt8)} {ra : Option Addr} {rc : Nat}
theorem StL.tape (h : StL zs g w b k xl sl z red ra rc W) : TapeAt W g zs k := h.2.2.1.1
theorem StL.blk (h : StL zs g w b k xl sl z red ra rc W) : Blk W b 31 (Cl.mk xl z red sl ra rc).arr := h.1
theorem StL.box (h : StL zs g w b k xl sl z red ra rc W) : W.cell? ⟨b, 0, none⟩ = some (.string ⟨xl.toArray⟩) ∧ W.cell? ⟨b, 1, none⟩ = some (.int .i64 z) ∧ W.cell? ⟨b, 2, none⟩ = some (.slice ra red.length rc) ∧ W.cell? ⟨b, 3, none⟩ = some (.string ⟨sl.toArray⟩) := boxC h.1
theorem StL.own (h : StL zs g w b k xl sl z red ra rc W) : W.ownsRow (b + 1) 9 1 (.slice ra red.length rc) red.length (strVs red) := h.2.1
theorem StL.few (h : StL zs g w b k xl sl z red ra rc W) : red.length ≤ 4 := h.2.2.2.2.1
theorem StL.alloc (h : StL zs g w b k xl sl z red ra rc W) (o : Obj) : StL zs g w b k xl sl z red ra rc (W.alloc o) := ⟨h.1.alloc o, h.2.1.alloc o, h.2.2.1.alloc o, h.2.2.2⟩
theorem StL.call (h : StL zs g w b k xl sl z red ra rc W) (ht : TapeAt W' g zs k') (hg : W.grownBy W' (some g)) : StL zs g w b k' xl sl z red ra rc W' := by
  have h1 := h.2.2.1.2.2.2
  have h2 := h.2.2.2.1
  exact ⟨h.1.grown hg (fun e => by injection e with e; omega), own_only h.2.1 hg (by omega), h.2.2.1.call ht hg, h.2.2.2⟩
theorem StL.made (h : StL zs g w b k xl sl z red ra rc W) (t : TypeId) (cs : Array Value) : MadeC g w (W.alloc (.cells cs t)) W.heap.size t cs := h.2.2.1.made t cs
/-- behind the append, ahead of the store -/
def AppL (zs : List Int) (g : Nat) (w : World) (b k : Nat) (xl sl : List UInt8) (z : Int) (red : List (List UInt8)) (ra : Option Addr) (rc : Nat) (W : World) : Prop :=
  Blk W b 31 (Cl.mk xl z red sl ra rc).arr ∧ StC zs g w k W ∧ w.heap.size < b ∧ red.length ≤ 4 ∧ ∀ p ∈ red, 1 ≤ p.length ∧ p.length ≤ 18
theorem StL.app (h : StL zs g w b k xl sl z red ra rc W) (hg : W.grownBy W' (Value.slice ra red.length rc).ownBlock) : AppL zs g w b k xl sl z red ra rc W' := by
  have h1 := h.2.2.1.2.2.2
  have h2 := h.2.2.2.1
  have h3 := h.2.1.lt
  exact ⟨h.1.grown hg (fun e => by have := h3 _ e.symm; omega), ⟨h.2.2.1.1.grown hg (fun r e => by have := h3 r e; omega), only_own h.2.2.1.2.1 hg (fun r e => by have := h3 r e; omega), h.2.2.1.2.2.1.grown hg (fun e => by have := h3 _ e.symm; omega), h1⟩, h.2.2.2⟩
theorem App.set {yl : List UInt8} {A7 : Option Addr} {c7 : Nat} (h : AppL zs g w b k xl sl z red ra rc W) (ho : W.ownsRow (b + 1) 9 1 (.slice A7 (red ++ [yl]).length c7) (red ++ [yl]).length (strVs (red ++ [yl]))) (hy : 1 ≤ yl.length ∧ yl.length ≤ 18) (h4 : red.length ≤ 3) :
    StL zs g w b k xl sl z (red ++ [yl]) A7 c7 (W.setCell ⟨b, 2, none⟩ (.slice A7 (red ++ [yl]).length c7)) := by
  have h1 := h.2.1.2.2.2
  have h2 := h.2.2.1
  have hsc := only_setCell (only_refl W (some b)) (p := ⟨b, 2, none⟩) (.inl rfl) (.slice A7 (red ++ [yl]).length c7)
  exact ⟨h.1.set_ 2 (.slice A7 (red ++ [yl]).length c7), own_only ho hsc (by omega), ⟨h.2.1.1.grown hsc (fun r e => by injection e with e; omega), only_setCell h.2.1.2.1 (p := ⟨b, 2, none⟩) (.inr (by show _ ≤ b; omega)) _, h.2.1.2.2.1.grown hsc (fun e => by injection e with e; omega), h1⟩, h2, by rw [List.length_append, List.length_singleton]; omega, mem_snoc h.2.2.2.2 hy⟩
end
set_option maxHeartbeats 40000000 in
theorem client_walk (zs : List Int) (g k0 : Nat) (w : World) (ht : TapeAt w g zs k0) :
    Calls Tryz.prog 14 #[.pointer (some ⟨g, 0, none⟩)] w (ClientR zs g w) := by
  obtain ⟨i0, hi, hz0, hz1, hz2⟩ := infoS4 info_str
  have hgw := ht.lt
  have HS : StC zs g w k0 (w.alloc (.cells clZ.arr 31)).drew := ⟨by have h1 := ht.grown (only_alloc (only_refl w none) (.cells clZ.arr 31)) (fun r e => by cases e); exact h1, only_drew (only_alloc (only_refl w (some g)) (.cells clZ.arr 31)), (Blk.new w 31 clZ.arr).drew, hgw⟩
  generalize hk : k0 = k at HS
  clear hk ht
  go_enter Tryz.func14, Tryz.ntmps14
  go_upto_region 1 with fail
  go_cut [3] from 5 to 15 (fun v3 wx => CliMid zs g w v3 wx)
  case first =>
    refine wp_region_held_drew (S := fun W => True) (by kernel_rfl) trivial (fun hHeld => ?_)
    rw [cl_zero]
    generalize (w.alloc (.cells clZ.arr 31)).drew = W0 at HS ⊢
    first | (refine wpAnyH_take (i := 0) (v := _) rfl (by kernel_rfl) (by kernel_rfl) (by kernel_rfl) (fun _ _ _ h => h) (Or.inr ⟨?_, rfl⟩) (by assumption) ?_; rfl) | (refine wpAnyH_take (i := 0) (v := ?_) rfl (by kernel_rfl) (by kernel_rfl) (by kernel_rfl) (fun _ _ _ h => h) (Or.inl ⟨?_, ?_⟩) (by assumption) ?_; rotate_left; rfl; focus (intro w hSw; (try dsimp only at hSw); go_simp; all_goals (with_reducible rfl)))
    (try simp only [List.getElem_toArray, List.getElem_cons_zero, List.getElem_cons_succ, Act.put, List.setIfInBounds_toArray, List.set_cons_zero, List.set_cons_succ])
    first | (refine wpAnyH_take (i := 4) (v := _) rfl (by kernel_rfl) (by kernel_rfl) (by kernel_rfl) (fun _ _ _ h => h) (Or.inr ⟨?_, rfl⟩) (by assumption) ?_; rfl) | (refine wpAnyH_take (i := 4) (v := ?_) rfl (by kernel_rfl) (by kernel_rfl) (by kernel_rfl) (fun _ _ _ h => h) (Or.inl ⟨?_, ?_⟩) (by assumption) ?_; rotate_left; rfl; focus (intro w hSw; (try dsimp only at hSw); go_simp; all_goals (with_reducible rfl)))
    (try simp only [List.getElem_toArray, List.getElem_cons_zero, List.getElem_cons_succ, Act.put, List.setIfInBounds_toArray, List.set_cons_zero, List.set_cons_succ])
    first | (refine wpAnyH_take (i := 8) (v := _) rfl (by kernel_rfl) (by kernel_rfl) (by kernel_rfl) (fun _ _ _ h => h) (Or.inr ⟨?_, rfl⟩) (by assumption) ?_; rfl) | (refine wpAnyH_take (i := 8) (v := ?_) rfl (by kernel_rfl) (by kernel_rfl) (by kernel_rfl) (fun _ _ _ h => h) (Or.inl ⟨?_, ?_⟩) (by assumption) ?_; rotate_left; rfl; focus (intro w hSw; (try dsimp only at hSw); go_simp; all_goals (with_reducible rfl)))
    (try simp only [List.getElem_toArray, List.getElem_cons_zero, List.getElem_cons_succ, Act.put, List.setIfInBounds_toArray, List.set_cons_zero, List.set_cons_succ])
    refine wpAnyH_ready (rs := [1, 3, 11]) (by kernel_rfl) (by simp) ?_
    refine AllReadyH.cons rfl (fun K hK => ?_) ( AllReadyH.cons rfl (fun K hK => ?_) ( AllReadyH.cons rfl (fun K hK => ?_) AllReadyH.nil))
    · go_simp
      have hx1 := HS.made 9 cC1
      replace HS := HS.alloc (.cells cC1 9)
      generalize W0.alloc (.cells cC1 9) = W1 at HS hx1 ⊢
      generalize W0.heap.size = b1 at hx1 ⊢
      have Hx1 := hx1
      refine hK.out _ _ trivial (fun hHeld => ?_)
      clear hK K hx1
      (try simp only [List.getElem_toArray, List.getElem_cons_zero, List.getElem_cons_succ, Act.put, List.setIfInBounds_toArray, List.set_cons_zero, List.set_cons_succ])
      refine wpAnyH_ready (rs := [2, 3, 11]) (by kernel_rfl) (by simp) ?_
      refine AllReadyH.cons rfl (fun K hK => ?_) ( AllReadyH.cons rfl (fun K hK => ?_) ( AllReadyH.cons rfl (fun K hK => ?_) AllReadyH.nil))
      · go_simp
        refine (pick_walk zs g k _ 6 (b1 + 1) rowsC1 (by decide) (by decide) (by decide) W1 HS.tape (reads_blk (us := rowsC1.map Value.string) Hx1.blk) Hx1.lt Hx1.ne).mono ?_
        obtain ⟨xl, ex, hx⟩ := rowsC1_ok zs k
        rw [ex]
        rintro _ W2 ⟨rfl, ht, hg, -⟩
        generalize nextA zs k rowsC1.length = k at ht
        clear ex
        go_simp
        replace Hx1 := Hx1.call hg
        replace HS := HS.call ht hg
        refine hK.out _ _ trivial (fun hHeld => ?_)
        clear hK K ht hg
        (try simp only [List.getElem_toArray, List.getElem_cons_zero, List.getElem_cons_succ, Act.put, List.setIfInBounds_toArray, List.set_cons_zero, List.set_cons_succ])
        refine wpAnyH_ready (rs := [3, 5, 11]) (by kernel_rfl) (by simp) ?_
        refine AllReadyH.cons rfl (fun K hK => ?_) ( AllReadyH.cons rfl (fun K hK => ?_) ( AllReadyH.cons rfl (fun K hK => ?_) AllReadyH.nil))
        · go_simp
          have hx3 := HS.made 3 cCi
          replace Hx1 := Hx1.alloc (.cells cCi 3)
          replace HS := HS.alloc (.cells cCi 3)
          generalize W2.alloc (.cells cCi 3) = W3 at HS Hx1 hx3 ⊢
          generalize W2.heap.size = b3 at hx3 ⊢
          have Hx3 := hx3
          refine hK.out _ _ trivial (fun hHeld => ?_)
          clear hK K hx3
          (try simp only [List.getElem_toArray, List.getElem_cons_zero, List.getElem_cons_succ, Act.put, List.setIfInBounds_toArray, List.set_cons_zero, List.set_cons_succ])
          refine wpAnyH_ready (rs := [5, 11]) (by kernel_rfl) (by simp) ?_
          refine AllReadyH.cons rfl (fun K hK => ?_) ( AllReadyH.cons rfl (fun K hK => ?_) AllReadyH.nil)
          · go_simp
            refine (next_walk zs g k 6 W3 HS.tape (by omega)).mono ?_
            obtain ⟨r, er, hr6⟩ := next6 zs k
            rw [er]
            rintro _ W4 ⟨rfl, ht, hg, -⟩
            generalize nextA zs k 6 = k at ht
            clear er
            go_simp
            replace Hx1 := Hx1.call hg
            replace Hx3 := Hx3.call hg
            replace HS := HS.call ht hg
            refine hK.out _ _ trivial (fun hHeld => ?_)
            clear hK K ht hg
            (try simp only [List.getElem_toArray, List.getElem_cons_zero, List.getElem_cons_succ, Act.put, List.setIfInBounds_toArray, List.set_cons_zero, List.set_cons_succ])
            have hrI : (r : Int) < 6 := by omega
            have hHeld := ints_cell Hx3.blk r hr6
            refine K9.wpAnyH_grow (S' := fun W => W.cell? ⟨b3, r, none⟩ = some (.int .i64 (secC r))) (fun _ _ => trivial) _ _ _ _ ?_
            refine wpAnyH_take (i := 6) (v := ?_) rfl (by kernel_rfl) (by kernel_rfl) (by kernel_rfl) (fun _ _ _ h => h) (Or.inl ⟨?_, ?_⟩) (by assumption) ?_; rotate_left; rfl; focus (intro w hSw; (try dsimp only at hSw); go_simp; all_goals (with_reducible rfl))
            (try simp only [List.getElem_toArray, List.getElem_cons_zero, List.getElem_cons_succ, Act.put, List.setIfInBounds_toArray, List.set_cons_zero, List.set_cons_succ])
            refine wpAnyH_take (i := 7) (v := ?_) rfl (by kernel_rfl) (by kernel_rfl) (by kernel_rfl) (fun _ _ _ h => h) (Or.inl ⟨?_, ?_⟩) (by assumption) ?_; rotate_left; rfl; focus (intro w hSw; (try dsimp only at hSw); go_simp; all_goals (with_reducible rfl))
            (try simp only [List.getElem_toArray, List.getElem_cons_zero, List.getElem_cons_succ, Act.put, List.setIfInBounds_toArray, List.set_cons_zero, List.set_cons_succ])
            refine wpAnyH_ready (rs := [9, 11]) (by kernel_rfl) (by simp) ?_
            refine AllReadyH.cons rfl (fun K hK => ?_) ( AllReadyH.cons rfl (fun K hK => ?_) AllReadyH.nil)
            · go_simp
              refine (S16.scope_walk zs g k W4 HS.tape).mono ?_
              rintro _ W5 ⟨s, k, hsl, rfl, ht, hg⟩
              go_simp
              replace Hx1 := Hx1.call hg
              replace Hx3 := Hx3.call hg
              replace HS := HS.call ht hg
              refine hK.out _ _ (ints_cell Hx3.blk r hr6) (fun hHeld => ?_)
              clear hK K ht hg
              (try simp only [List.getElem_toArray, List.getElem_cons_zero, List.getElem_cons_succ, Act.put, List.setIfInBounds_toArray, List.set_cons_zero, List.set_cons_succ])
              refine wpAnyH_take (i := 10) (v := ?_) rfl (by kernel_rfl) (by kernel_rfl) (by kernel_rfl) (fun _ _ _ h => h) (Or.inl ⟨?_, ?_⟩) (by assumption) ?_; rotate_left; rfl; focus (intro w hSw; (try dsimp only at hSw); go_simp; all_goals (with_reducible rfl))
              (try simp only [List.getElem_toArray, List.getElem_cons_zero, List.getElem_cons_succ, Act.put, List.setIfInBounds_toArray, List.set_cons_zero, List.set_cons_succ])
              refine wpAnyH_ready (rs := [11]) (by kernel_rfl) (by simp) ?_
              refine AllReadyH.cons rfl (fun K hK => ?_) AllReadyH.nil
              go_simp
              have hx11 := HS.made 31 cCz
              replace Hx1 := Hx1.alloc (.cells cCz 31)
              replace Hx3 := Hx3.alloc (.cells cCz 31)
              replace HS := HS.alloc (.cells cCz 31)
              generalize W5.alloc (.cells cCz 31) = W6 at HS Hx1 Hx3 hx11 ⊢
              generalize W5.heap.size = b11 at hx11 ⊢
              have Hx11 := hx11
              refine hK.out _ _ (ints_cell Hx3.blk r hr6) (fun hHeld => ?_)
              clear hK K hx11
              (try simp only [List.getElem_toArray, List.getElem_cons_zero, List.getElem_cons_succ, Act.put, List.setIfInBounds_toArray, List.set_cons_zero, List.set_cons_succ])
              refine wpAnyH_ready (rs := [12]) (by kernel_rfl) (by simp) ?_
              refine AllReadyH.cons rfl (fun K hK => ?_) AllReadyH.nil
              rw [if_pos (by rfl)]
              obtain ⟨sl, rfl⟩ := str_of s
              refine wp_store_blk 31 _ _ rfl b11 clZ.arr (Cl.mk xl (secC r) [] sl none 0).arr _ rfl rfl Hx11.blk rfl cl_size (Cl.ones _) ?_
              refine hK.out _ _ (ints_cell (Hx3.blk.grown (setRow_only W6 b11 (Cl.mk xl (secC r) [] sl none 0).arr) (Hx3.unlike Hx11)) r hr6) (fun hHeld => ?_)
              clear hK K
              have HF := CliMid.of HS Hx11 hx hsl hr6
              (try simp only [List.getElem_toArray, List.getElem_cons_zero, List.getElem_cons_succ, Act.put, List.setIfInBounds_toArray, List.set_cons_zero, List.set_cons_succ])
              refine wpAnyH_done (by kernel_rfl) ?_ _
              go_wp2_with fail
              go_meet
              exact HF
            · go_simp
              have hx11 := HS.made 31 cCz
              replace Hx1 := Hx1.alloc (.cells cCz 31)
              replace Hx3 := Hx3.alloc (.cells cCz 31)
              replace HS := HS.alloc (.cells cCz 31)
              generalize W4.alloc (.cells cCz 31) = W5 at HS Hx1 Hx3 hx11 ⊢
              generalize W4.heap.size = b11 at hx11 ⊢
              have Hx11 := hx11
              refine hK.out _ _ (ints_cell Hx3.blk r hr6) (fun hHeld => ?_)
              clear hK K hx11
              (try simp only [List.getElem_toArray, List.getElem_cons_zero, List.getElem_cons_succ, Act.put, List.setIfInBounds_toArray, List.set_cons_zero, List.set_cons_succ])
              refine wpAnyH_ready (rs := [9]) (by kernel_rfl) (by simp) ?_
              refine AllReadyH.cons rfl (fun K hK => ?_) AllReadyH.nil
              go_simp
              refine (S16.scope_walk zs g k W5 HS.tape).mono ?_
              rintro _ W6 ⟨s, k, hsl, rfl, ht, hg⟩
              go_simp
              replace Hx1 := Hx1.call hg
              replace Hx3 := Hx3.call hg
              replace Hx11 := Hx11.call hg
              replace HS := HS.call ht hg
              refine hK.out _ _ (ints_cell Hx3.blk r hr6) (fun hHeld => ?_)
              clear hK K ht hg
              (try simp only [List.getElem_toArray, List.getElem_cons_zero, List.getElem_cons_succ, Act.put, List.setIfInBounds_toArray, List.set_cons_zero, List.set_cons_succ])
              refine wpAnyH_take (i := 10) (v := ?_) rfl (by kernel_rfl) (by kernel_rfl) (by kernel_rfl) (fun _ _ _ h => h) (Or.inl ⟨?_, ?_⟩) (by assumption) ?_; rotate_left; rfl; focus (intro w hSw; (try dsimp only at hSw); go_simp; all_goals (with_reducible rfl))
              (try simp only [List.getElem_toArray, List.getElem_cons_zero, List.getElem_cons_succ, Act.put, List.setIfInBounds_toArray, List.set_cons_zero, List.set_cons_succ])
              refine wpAnyH_ready (rs := [12]) (by kernel_rfl) (by simp) ?_
              refine AllReadyH.cons rfl (fun K hK => ?_) AllReadyH.nil
              rw [if_pos (by rfl)]
              obtain ⟨sl, rfl⟩ := str_of s
              refine wp_store_blk 31 _ _ rfl b11 clZ.arr (Cl.mk xl (secC r) [] sl none 0).arr _ rfl rfl Hx11.blk rfl cl_size (Cl.ones _) ?_
              refine hK.out _ _ (ints_cell (Hx3.blk.grown (setRow_only W6 b11 (Cl.mk xl (secC r) [] sl none 0).arr) (Hx3.unlike Hx11)) r hr6) (fun hHeld => ?_)
              clear hK K
              have HF := CliMid.of HS Hx11 hx hsl hr6
              (try simp only [List.getElem_toArray, List.getElem_cons_zero, List.getElem_cons_succ, Act.put, List.setIfInBounds_toArray, List.set_cons_zero, List.set_cons_succ])
              refine wpAnyH_done (by kernel_rfl) ?_ _
              go_wp2_with fail
              go_meet
              exact HF
          · go_simp
            have hx11 := HS.made 31 cCz
            replace Hx1 := Hx1.alloc (.cells cCz 31)
            replace Hx3 := Hx3.alloc (.cells cCz 31)
            replace HS := HS.alloc (.cells cCz 31)
            generalize W3.alloc (.cells cCz 31) = W4 at HS Hx1 Hx3 hx11 ⊢
            generalize W3.heap.size = b11 at hx11 ⊢
            have Hx11 := hx11
            refine hK.out _ _ trivial (fun hHeld => ?_)
            clear hK K hx11
            (try simp only [List.getElem_toArray, List.getElem_cons_zero, List.getElem_cons_succ, Act.put, List.setIfInBounds_toArray, List.set_cons_zero, List.set_cons_succ])
            refine wpAnyH_ready (rs := [5]) (by kernel_rfl) (by simp) ?_
            refine AllReadyH.cons rfl (fun K hK => ?_) AllReadyH.nil
            go_simp
            refine (next_walk zs g k 6 W4 HS.tape (by omega)).mono ?_
            obtain ⟨r, er, hr6⟩ := next6 zs k
            rw [er]
            rintro _ W5 ⟨rfl, ht, hg, -⟩
            generalize nextA zs k 6 = k at ht
            clear er
            go_simp
            replace Hx1 := Hx1.call hg
            replace Hx3 := Hx3.call hg
            replace Hx11 := Hx11.call hg
            replace HS := HS.call ht hg
            refine hK.out _ _ trivial (fun hHeld => ?_)
            clear hK K ht hg
            (try simp only [List.getElem_toArray, List.getElem_cons_zero, List.getElem_cons_succ, Act.put, List.setIfInBounds_toArray, List.set_cons_zero, List.set_cons_succ])
            have hrI : (r : Int) < 6 := by omega
            have hHeld := ints_cell Hx3.blk r hr6
            refine K9.wpAnyH_grow (S' := fun W => W.cell? ⟨b3, r, none⟩ = some (.int .i64 (secC r))) (fun _ _ => trivial) _ _ _ _ ?_
            refine wpAnyH_take (i := 6) (v := ?_) rfl (by kernel_rfl) (by kernel_rfl) (by kernel_rfl) (fun _ _ _ h => h) (Or.inl ⟨?_, ?_⟩) (by assumption) ?_; rotate_left; rfl; focus (intro w hSw; (try dsimp only at hSw); go_simp; all_goals (with_reducible rfl))
            (try simp only [List.getElem_toArray, List.getElem_cons_zero, List.getElem_cons_succ, Act.put, List.setIfInBounds_toArray, List.set_cons_zero, List.set_cons_succ])
            refine wpAnyH_take (i := 7) (v := ?_) rfl (by kernel_rfl) (by kernel_rfl) (by kernel_rfl) (fun _ _ _ h => h) (Or.inl ⟨?_, ?_⟩) (by assumption) ?_; rotate_left; rfl; focus (intro w hSw; (try dsimp only at hSw); go_simp; all_goals (with_reducible rfl))
            (try simp only [List.getElem_toArray, List.getElem_cons_zero, List.getElem_cons_succ, Act.put, List.setIfInBounds_toArray, List.set_cons_zero, List.set_cons_succ])
            refine wpAnyH_ready (rs := [9]) (by kernel_rfl) (by simp) ?_
            refine AllReadyH.cons rfl (fun K hK => ?_) AllReadyH.nil
            go_simp
            refine (S16.scope_walk zs g k W5 HS.tape).mono ?_
            rintro _ W6 ⟨s, k, hsl, rfl, ht, hg⟩
            go_simp
            replace Hx1 := Hx1.call hg
            replace Hx3 := Hx3.call hg
            replace Hx11 := Hx11.call hg
            replace HS := HS.call ht hg
            refine hK.out _ _ (ints_cell Hx3.blk r hr6) (fun hHeld => ?_)
            clear hK K ht hg
            (try simp only [List.getElem_toArray, List.getElem_cons_zero, List.getElem_cons_succ, Act.put, List.setIfInBounds_toArray, List.set_cons_zero, List.set_cons_succ])
            refine wpAnyH_take (i := 10) (v := ?_) rfl (by kernel_rfl) (by kernel_rfl) (by kernel_rfl) (fun _ _ _ h => h) (Or.inl ⟨?_, ?_⟩) (by assumption) ?_; rotate_left; rfl; focus (intro w hSw; (try dsimp only at hSw); go_simp; all_goals (with_reducible rfl))
            (try simp only [List.getElem_toArray, List.getElem_cons_zero, List.getElem_cons_succ, Act.put, List.setIfInBounds_toArray, List.set_cons_zero, List.set_cons_succ])
            refine wpAnyH_ready (rs := [12]) (by kernel_rfl) (by simp) ?_
            refine AllReadyH.cons rfl (fun K hK => ?_) AllReadyH.nil
            rw [if_pos (by rfl)]
            obtain ⟨sl, rfl⟩ := str_of s
            refine wp_store_blk 31 _ _ rfl b11 clZ.arr (Cl.mk xl (secC r) [] sl none 0).arr _ rfl rfl Hx11.blk rfl cl_size (Cl.ones _) ?_
            refine hK.out _ _ (ints_cell (Hx3.blk.grown (setRow_only W6 b11 (Cl.mk xl (secC r) [] sl none 0).arr) (Hx3.unlike Hx11)) r hr6) (fun hHeld => ?_)
            clear hK K
            have HF := CliMid.of HS Hx11 hx hsl hr6
            (try simp only [List.getElem_toArray, List.getElem_cons_zero, List.getElem_cons_succ, Act.put, List.setIfInBounds_toArray, List.set_cons_zero, List.set_cons_succ])
            refine wpAnyH_done (by kernel_rfl) ?_ _
            go_wp2_with fail
            go_meet
            exact HF
        · go_simp
          refine (next_walk zs g k 6 W2 HS.tape (by omega)).mono ?_
          obtain ⟨r, er, hr6⟩ := next6 zs k
          rw [er]
          rintro _ W3 ⟨rfl, ht, hg, -⟩
          generalize nextA zs k 6 = k at ht
          clear er
          go_simp
          replace Hx1 := Hx1.call hg
          replace HS := HS.call ht hg
          refine hK.out _ _ trivial (fun hHeld => ?_)
          clear hK K ht hg
          (try simp only [List.getElem_toArray, List.getElem_cons_zero, List.getElem_cons_succ, Act.put, List.setIfInBounds_toArray, List.set_cons_zero, List.set_cons_succ])
          refine wpAnyH_ready (rs := [3, 9, 11]) (by kernel_rfl) (by simp) ?_
          refine AllReadyH.cons rfl (fun K hK => ?_) ( AllReadyH.cons rfl (fun K hK => ?_) ( AllReadyH.cons rfl (fun K hK => ?_) AllReadyH.nil))
          · go_simp
            have hx3 := HS.made 3 cCi
            replace Hx1 := Hx1.alloc (.cells cCi 3)
            replace HS := HS.alloc (.cells cCi 3)
            generalize W3.alloc (.cells cCi 3) = W4 at HS Hx1 hx3 ⊢
            generalize W3.heap.size = b3 at hx3 ⊢
            have Hx3 := hx3
            refine hK.out _ _ trivial (fun hHeld => ?_)
            clear hK K hx3
            (try simp only [List.getElem_toArray, List.getElem_cons_zero, List.getElem_cons_succ, Act.put, List.setIfInBounds_toArray, List.set_cons_zero, List.set_cons_succ])
            have hrI : (r : Int) < 6 := by omega
            have hHeld := ints_cell Hx3.blk r hr6
            refine K9.wpAnyH_grow (S' := fun W => W.cell? ⟨b3, r, none⟩ = some (.int .i64 (secC r))) (fun _ _ => trivial) _ _ _ _ ?_
            refine wpAnyH_take (i := 6) (v := ?_) rfl (by kernel_rfl) (by kernel_rfl) (by kernel_rfl) (fun _ _ _ h => h) (Or.inl ⟨?_, ?_⟩) (by assumption) ?_; rotate_left; rfl; focus (intro w hSw; (try dsimp only at hSw); go_simp; all_goals (with_reducible rfl))
            (try simp only [List.getElem_toArray, List.getElem_cons_zero, List.getElem_cons_succ, Act.put, List.setIfInBounds_toArray, List.set_cons_zero, List.set_cons_succ])
            refine wpAnyH_take (i := 7) (v := ?_) rfl (by kernel_rfl) (by kernel_rfl) (by kernel_rfl) (fun _ _ _ h => h) (Or.inl ⟨?_, ?_⟩) (by assumption) ?_; rotate_left; rfl; focus (intro w hSw; (try dsimp only at hSw); go_simp; all_goals (with_reducible rfl))
            (try simp only [List.getElem_toArray, List.getElem_cons_zero, List.getElem_cons_succ, Act.put, List.setIfInBounds_toArray, List.set_cons_zero, List.set_cons_succ])
            refine wpAnyH_ready (rs := [9, 11]) (by kernel_rfl) (by simp) ?_
            refine AllReadyH.cons rfl (fun K hK => ?_) ( AllReadyH.cons rfl (fun K hK => ?_) AllReadyH.nil)
            · go_simp
              refine (S16.scope_walk zs g k W4 HS.tape).mono ?_
              rintro _ W5 ⟨s, k, hsl, rfl, ht, hg⟩
              go_simp
              replace Hx1 := Hx1.call hg
              replace Hx3 := Hx3.call hg
              replace HS := HS.call ht hg
              refine hK.out _ _ (ints_cell Hx3.blk r hr6) (fun hHeld => ?_)
              clear hK K ht hg
              (try simp only [List.getElem_toArray, List.getElem_cons_zero, List.getElem_cons_succ, Act.put, List.setIfInBounds_toArray, List.set_cons_zero, List.set_cons_succ])
              refine wpAnyH_take (i := 10) (v := ?_) rfl (by kernel_rfl) (by kernel_rfl) (by kernel_rfl) (fun _ _ _ h => h) (Or.inl ⟨?_, ?_⟩) (by assumption) ?_; rotate_left; rfl; focus (intro w hSw; (try dsimp only at hSw); go_simp; all_goals (with_reducible rfl))
              (try simp only [List.getElem_toArray, List.getElem_cons_zero, List.getElem_cons_succ, Act.put, List.setIfInBounds_toArray, List.set_cons_zero, List.set_cons_succ])
              refine wpAnyH_ready (rs := [11]) (by kernel_rfl) (by simp) ?_
              refine AllReadyH.cons rfl (fun K hK => ?_) AllReadyH.nil
              go_simp
              have hx11 := HS.made 31 cCz
              replace Hx1 := Hx1.alloc (.cells cCz 31)
              replace Hx3 := Hx3.alloc (.cells cCz 31)
              replace HS := HS.alloc (.cells cCz 31)
              generalize W5.alloc (.cells cCz 31) = W6 at HS Hx1 Hx3 hx11 ⊢
              generalize W5.heap.size = b11 at hx11 ⊢
              have Hx11 := hx11
              refine hK.out _ _ (ints_cell Hx3.blk r hr6) (fun hHeld => ?_)
              clear hK K hx11
              (try simp only [List.getElem_toArray, List.getElem_cons_zero, List.getElem_cons_succ, Act.put, List.setIfInBounds_toArray, List.set_cons_zero, List.set_cons_succ])
              refine wpAnyH_ready (rs := [12]) (by kernel_rfl) (by simp) ?_
              refine AllReadyH.cons rfl (fun K hK => ?_) AllReadyH.nil
              rw [if_pos (by rfl)]
              obtain ⟨sl, rfl⟩ := str_of s
              refine wp_store_blk 31 _ _ rfl b11 clZ.arr (Cl.mk xl (secC r) [] sl none 0).arr _ rfl rfl Hx11.blk rfl cl_size (Cl.ones _) ?_
              refine hK.out _ _ (ints_cell (Hx3.blk.grown (setRow_only W6 b11 (Cl.mk xl (secC r) [] sl none 0).arr) (Hx3.unlike Hx11)) r hr6) (fun hHeld => ?_)
              clear hK K
              have HF := CliMid.of HS Hx11 hx hsl hr6
              (try simp only [List.getElem_toArray, List.getElem_cons_zero, List.getElem_cons_succ, Act.put, List.setIfInBounds_toArray, List.set_cons_zero, List.set_cons_succ])
              refine wpAnyH_done (by kernel_rfl) ?_ _
              go_wp2_with fail
              go_meet
              exact HF
            · go_simp
              have hx11 := HS.made 31 cCz
              replace Hx1 := Hx1.alloc (.cells cCz 31)
              replace Hx3 := Hx3.alloc (.cells cCz 31)
              replace HS := HS.alloc (.cells cCz 31)
              generalize W4.alloc (.cells cCz 31) = W5 at HS Hx1 Hx3 hx11 ⊢
              generalize W4.heap.size = b11 at hx11 ⊢
              have Hx11 := hx11
              refine hK.out _ _ (ints_cell Hx3.blk r hr6) (fun hHeld => ?_)
              clear hK K hx11
              (try simp only [List.getElem_toArray, List.getElem_cons_zero, List.getElem_cons_succ, Act.put, List.setIfInBounds_toArray, List.set_cons_zero, List.set_cons_succ])
              refine wpAnyH_ready (rs := [9]) (by kernel_rfl) (by simp) ?_
              refine AllReadyH.cons rfl (fun K hK => ?_) AllReadyH.nil
              go_simp
              refine (S16.scope_walk zs g k W5 HS.tape).mono ?_
              rintro _ W6 ⟨s, k, hsl, rfl, ht, hg⟩
              go_simp
              replace Hx1 := Hx1.call hg
              replace Hx3 := Hx3.call hg
              replace Hx11 := Hx11.call hg
              replace HS := HS.call ht hg
              refine hK.out _ _ (ints_cell Hx3.blk r hr6) (fun hHeld => ?_)
              clear hK K ht hg
              (try simp only [List.getElem_toArray, List.getElem_cons_zero, List.getElem_cons_succ, Act.put, List.setIfInBounds_toArray, List.set_cons_zero, List.set_cons_succ])
              refine wpAnyH_take (i := 10) (v := ?_) rfl (by kernel_rfl) (by kernel_rfl) (by kernel_rfl) (fun _ _ _ h => h) (Or.inl ⟨?_, ?_⟩) (by assumption) ?_; rotate_left; rfl; focus (intro w hSw; (try dsimp only at hSw); go_simp; all_goals (with_reducible rfl))
              (try simp only [List.getElem_toArray, List.getElem_cons_zero, List.getElem_cons_succ, Act.put, List.setIfInBounds_toArray, List.set_cons_zero, List.set_cons_succ])
              refine wpAnyH_ready (rs := [12]) (by kernel_rfl) (by simp) ?_
              refine AllReadyH.cons rfl (fun K hK => ?_) AllReadyH.nil
              rw [if_pos (by rfl)]
              obtain ⟨sl, rfl⟩ := str_of s
              refine wp_store_blk 31 _ _ rfl b11 clZ.arr (Cl.mk xl (secC r) [] sl none 0).arr _ rfl rfl Hx11.blk rfl cl_size (Cl.ones _) ?_
              refine hK.out _ _ (ints_cell (Hx3.blk.grown (setRow_only W6 b11 (Cl.mk xl (secC r) [] sl none 0).arr) (Hx3.unlike Hx11)) r hr6) (fun hHeld => ?_)
              clear hK K
              have HF := CliMid.of HS Hx11 hx hsl hr6
              (try simp only [List.getElem_toArray, List.getElem_cons_zero, List.getElem_cons_succ, Act.put, List.setIfInBounds_toArray, List.set_cons_zero, List.set_cons_succ])
              refine wpAnyH_done (by kernel_rfl) ?_ _
              go_wp2_with fail
              go_meet
              exact HF
          · go_simp
            refine (S16.scope_walk zs g k W3 HS.tape).mono ?_
            rintro _ W4 ⟨s, k, hsl, rfl, ht, hg⟩
            go_simp
            replace Hx1 := Hx1.call hg
            replace HS := HS.call ht hg
            refine hK.out _ _ trivial (fun hHeld => ?_)
            clear hK K ht hg
            (try simp only [List.getElem_toArray, List.getElem_cons_zero, List.getElem_cons_succ, Act.put, List.setIfInBounds_toArray, List.set_cons_zero, List.set_cons_succ])
            refine wpAnyH_ready (rs := [3, 11]) (by kernel_rfl) (by simp) ?_
            refine AllReadyH.cons rfl (fun K hK => ?_) ( AllReadyH.cons rfl (fun K hK => ?_) AllReadyH.nil)
            · go_simp
              have hx3 := HS.made 3 cCi
              replace Hx1 := Hx1.alloc (.cells cCi 3)
              replace HS := HS.alloc (.cells cCi 3)
              generalize W4.alloc (.cells cCi 3) = W5 at HS Hx1 hx3 ⊢
              generalize W4.heap.size = b3 at hx3 ⊢
              have Hx3 := hx3
              refine hK.out _ _ trivial (fun hHeld => ?_)
              clear hK K hx3
              (try simp only [List.getElem_toArray, List.getElem_cons_zero, List.getElem_cons_succ, Act.put, List.setIfInBounds_toArray, List.set_cons_zero, List.set_cons_succ])
              have hrI : (r : Int) < 6 := by omega
              have hHeld := ints_cell Hx3.blk r hr6
              refine K9.wpAnyH_grow (S' := fun W => W.cell? ⟨b3, r, none⟩ = some (.int .i64 (secC r))) (fun _ _ => trivial) _ _ _ _ ?_
              refine wpAnyH_take (i := 6) (v := ?_) rfl (by kernel_rfl) (by kernel_rfl) (by kernel_rfl) (fun _ _ _ h => h) (Or.inl ⟨?_, ?_⟩) (by assumption) ?_; rotate_left; rfl; focus (intro w hSw; (try dsimp only at hSw); go_simp; all_goals (with_reducible rfl))
              (try simp only [List.getElem_toArray, List.getElem_cons_zero, List.getElem_cons_succ, Act.put, List.setIfInBounds_toArray, List.set_cons_zero, List.set_cons_succ])
              refine wpAnyH_take (i := 7) (v := ?_) rfl (by kernel_rfl) (by kernel_rfl) (by kernel_rfl) (fun _ _ _ h => h) (Or.inl ⟨?_, ?_⟩) (by assumption) ?_; rotate_left; rfl; focus (intro w hSw; (try dsimp only at hSw); go_simp; all_goals (with_reducible rfl))
              (try simp only [List.getElem_toArray, List.getElem_cons_zero, List.getElem_cons_succ, Act.put, List.setIfInBounds_toArray, List.set_cons_zero, List.set_cons_succ])
              refine wpAnyH_take (i := 10) (v := ?_) rfl (by kernel_rfl) (by kernel_rfl) (by kernel_rfl) (fun _ _ _ h => h) (Or.inl ⟨?_, ?_⟩) (by assumption) ?_; rotate_left; rfl; focus (intro w hSw; (try dsimp only at hSw); go_simp; all_goals (with_reducible rfl))
              (try simp only [List.getElem_toArray, List.getElem_cons_zero, List.getElem_cons_succ, Act.put, List.setIfInBounds_toArray, List.set_cons_zero, List.set_cons_succ])
              refine wpAnyH_ready (rs := [11]) (by kernel_rfl) (by simp) ?_
              refine AllReadyH.cons rfl (fun K hK => ?_) AllReadyH.nil
              go_simp
              have hx11 := HS.made 31 cCz
              replace Hx1 := Hx1.alloc (.cells cCz 31)
              replace Hx3 := Hx3.alloc (.cells cCz 31)
              replace HS := HS.alloc (.cells cCz 31)
              generalize W5.alloc (.cells cCz 31) = W6 at HS Hx1 Hx3 hx11 ⊢
              generalize W5.heap.size = b11 at hx11 ⊢
              have Hx11 := hx11
              refine hK.out _ _ (ints_cell Hx3.blk r hr6) (fun hHeld => ?_)
              clear hK K hx11
              (try simp only [List.getElem_toArray, List.getElem_cons_zero, List.getElem_cons_succ, Act.put, List.setIfInBounds_toArray, List.set_cons_zero, List.set_cons_succ])
              refine wpAnyH_ready (rs := [12]) (by kernel_rfl) (by simp) ?_
              refine AllReadyH.cons rfl (fun K hK => ?_) AllReadyH.nil
              rw [if_pos (by rfl)]
              obtain ⟨sl, rfl⟩ := str_of s
              refine wp_store_blk 31 _ _ rfl b11 clZ.arr (Cl.mk xl (secC r) [] sl none 0).arr _ rfl rfl Hx11.blk rfl cl_size (Cl.ones _) ?_
              refine hK.out _ _ (ints_cell (Hx3.blk.grown (setRow_only W6 b11 (Cl.mk xl (secC r) [] sl none 0).arr) (Hx3.unlike Hx11)) r hr6) (fun hHeld => ?_)
              clear hK K
              have HF := CliMid.of HS Hx11 hx hsl hr6
              (try simp only [List.getElem_toArray, List.getElem_cons_zero, List.getElem_cons_succ, Act.put, List.setIfInBounds_toArray, List.set_cons_zero, List.set_cons_succ])
              refine wpAnyH_done (by kernel_rfl) ?_ _
              go_wp2_with fail
              go_meet
              exact HF
            · go_simp
              have hx11 := HS.made 31 cCz
              replace Hx1 := Hx1.alloc (.cells cCz 31)
              replace HS := HS.alloc (.cells cCz 31)
              generalize W4.alloc (.cells cCz 31) = W5 at HS Hx1 hx11 ⊢
              generalize W4.heap.size = b11 at hx11 ⊢
              have Hx11 := hx11
              refine hK.out _ _ trivial (fun hHeld => ?_)
              clear hK K hx11
              (try simp only [List.getElem_toArray, List.getElem_cons_zero, List.getElem_cons_succ, Act.put, List.setIfInBounds_toArray, List.set_cons_zero, List.set_cons_succ])
              refine wpAnyH_ready (rs := [3]) (by kernel_rfl) (by simp) ?_
              refine AllReadyH.cons rfl (fun K hK => ?_) AllReadyH.nil
              go_simp
              have hx3 := HS.made 3 cCi
              replace Hx1 := Hx1.alloc (.cells cCi 3)
              replace Hx11 := Hx11.alloc (.cells cCi 3)
              replace HS := HS.alloc (.cells cCi 3)
              generalize W5.alloc (.cells cCi 3) = W6 at HS Hx1 Hx11 hx3 ⊢
              generalize W5.heap.size = b3 at hx3 ⊢
              have Hx3 := hx3
              refine hK.out _ _ trivial (fun hHeld => ?_)
              clear hK K hx3
              (try simp only [List.getElem_toArray, List.getElem_cons_zero, List.getElem_cons_succ, Act.put, List.setIfInBounds_toArray, List.set_cons_zero, List.set_cons_succ])
              have hrI : (r : Int) < 6 := by omega
              have hHeld := ints_cell Hx3.blk r hr6
              refine K9.wpAnyH_grow (S' := fun W => W.cell? ⟨b3, r, none⟩ = some (.int .i64 (secC r))) (fun _ _ => trivial) _ _ _ _ ?_
              refine wpAnyH_take (i := 6) (v := ?_) rfl (by kernel_rfl) (by kernel_rfl) (by kernel_rfl) (fun _ _ _ h => h) (Or.inl ⟨?_, ?_⟩) (by assumption) ?_; rotate_left; rfl; focus (intro w hSw; (try dsimp only at hSw); go_simp; all_goals (with_reducible rfl))
              (try simp only [List.getElem_toArray, List.getElem_cons_zero, List.getElem_cons_succ, Act.put, List.setIfInBounds_toArray, List.set_cons_zero, List.set_cons_succ])
              refine wpAnyH_take (i := 7) (v := ?_) rfl (by kernel_rfl) (by kernel_rfl) (by kernel_rfl) (fun _ _ _ h => h) (Or.inl ⟨?_, ?_⟩) (by assumption) ?_; rotate_left; rfl; focus (intro w hSw; (try dsimp only at hSw); go_simp; all_goals (with_reducible rfl))
              (try simp only [List.getElem_toArray, List.getElem_cons_zero, List.getElem_cons_succ, Act.put, List.setIfInBounds_toArray, List.set_cons_zero, List.set_cons_succ])
              refine wpAnyH_take (i := 10) (v := ?_) rfl (by kernel_rfl) (by kernel_rfl) (by kernel_rfl) (fun _ _ _ h => h) (Or.inl ⟨?_, ?_⟩) (by assumption) ?_; rotate_left; rfl; focus (intro w hSw; (try dsimp only at hSw); go_simp; all_goals (with_reducible rfl))
              (try simp only [List.getElem_toArray, List.getElem_cons_zero, List.getElem_cons_succ, Act.put, List.setIfInBounds_toArray, List.set_cons_zero, List.set_cons_succ])
              refine wpAnyH_ready (rs := [12]) (by kernel_rfl) (by simp) ?_
              refine AllReadyH.cons rfl (fun K hK => ?_) AllReadyH.nil
              rw [if_pos (by rfl)]
              obtain ⟨sl, rfl⟩ := str_of s
              refine wp_store_blk 31 _ _ rfl b11 clZ.arr (Cl.mk xl (secC r) [] sl none 0).arr _ rfl rfl Hx11.blk rfl cl_size (Cl.ones _) ?_
              refine hK.out _ _ (ints_cell (Hx3.blk.grown (setRow_only W6 b11 (Cl.mk xl (secC r) [] sl none 0).arr) (Hx3.unlike Hx11)) r hr6) (fun hHeld => ?_)
              clear hK K
              have HF := CliMid.of HS Hx11 hx hsl hr6
              (try simp only [List.getElem_toArray, List.getElem_cons_zero, List.getElem_cons_succ, Act.put, List.setIfInBounds_toArray, List.set_cons_zero, List.set_cons_succ])
              refine wpAnyH_done (by kernel_rfl) ?_ _
              go_wp2_with fail
              go_meet
              exact HF
          · go_simp
            have hx11 := HS.made 31 cCz
            replace Hx1 := Hx1.alloc (.cells cCz 31)
            replace HS := HS.alloc (.cells cCz 31)
            generalize W3.alloc (.cells cCz 31) = W4 at HS Hx1 hx11 ⊢
            generalize W3.heap.size = b11 at hx11 ⊢
            have Hx11 := hx11
            refine hK.out _ _ trivial (fun hHeld => ?_)
            clear hK K hx11
            (try simp only [List.getElem_toArray, List.getElem_cons_zero, List.getElem_cons_succ, Act.put, List.setIfInBounds_toArray, List.set_cons_zero, List.set_cons_succ])
            refine wpAnyH_ready (rs := [3, 9]) (by kernel_rfl) (by simp) ?_
            refine AllReadyH.cons rfl (fun K hK => ?_) ( AllReadyH.cons rfl (fun K hK => ?_) AllReadyH.nil)
            · go_simp
              have hx3 := HS.made 3 cCi
              replace Hx1 := Hx1.alloc (.cells cCi 3)
              replace Hx11 := Hx11.alloc (.cells cCi 3)
              replace HS := HS.alloc (.cells cCi 3)
              generalize W4.alloc (.cells cCi 3) = W5 at HS Hx1 Hx11 hx3 ⊢
              generalize W4.heap.size = b3 at hx3 ⊢
              have Hx3 := hx3
              refine hK.out _ _ trivial (fun hHeld => ?_)
              clear hK K hx3
              (try simp only [List.getElem_toArray, List.getElem_cons_zero, List.getElem_cons_succ, Act.put, List.setIfInBounds_toArray, List.set_cons_zero, List.set_cons_succ])
              have hrI : (r : Int) < 6 := by omega
              have hHeld := ints_cell Hx3.blk r hr6
              refine K9.wpAnyH_grow (S' := fun W => W.cell? ⟨b3, r, none⟩ = some (.int .i64 (secC r))) (fun _ _ => trivial) _ _ _ _ ?_
              refine wpAnyH_take (i := 6) (v := ?_) rfl (by kernel_rfl) (by kernel_rfl) (by kernel_rfl) (fun _ _ _ h => h) (Or.inl ⟨?_, ?_⟩) (by assumption) ?_; rotate_left; rfl; focus (intro w hSw; (try dsimp only at hSw); go_simp; all_goals (with_reducible rfl))
              (try simp only [List.getElem_toArray, List.getElem_cons_zero, List.getElem_cons_succ, Act.put, List.setIfInBounds_toArray, List.set_cons_zero, List.set_cons_succ])
              refine wpAnyH_take (i := 7) (v := ?_) rfl (by kernel_rfl) (by kernel_rfl) (by kernel_rfl) (fun _ _ _ h => h) (Or.inl ⟨?_, ?_⟩) (by assumption) ?_; rotate_left; rfl; focus (intro w hSw; (try dsimp only at hSw); go_simp; all_goals (with_reducible rfl))
              (try simp only [List.getElem_toArray, List.getElem_cons_zero, List.getElem_cons_succ, Act.put, List.setIfInBounds_toArray, List.set_cons_zero, List.set_cons_succ])
              refine wpAnyH_ready (rs := [9]) (by kernel_rfl) (by simp) ?_
              refine AllReadyH.cons rfl (fun K hK => ?_) AllReadyH.nil
              go_simp
              refine (S16.scope_walk zs g k W5 HS.tape).mono ?_
              rintro _ W6 ⟨s, k, hsl, rfl, ht, hg⟩
              go_simp
              replace Hx1 := Hx1.call hg
              replace Hx11 := Hx11.call hg
              replace Hx3 := Hx3.call hg
              replace HS := HS.call ht hg
              refine hK.out _ _ (ints_cell Hx3.blk r hr6) (fun hHeld => ?_)
              clear hK K ht hg
              (try simp only [List.getElem_toArray, List.getElem_cons_zero, List.getElem_cons_succ, Act.put, List.setIfInBounds_toArray, List.set_cons_zero, List.set_cons_succ])
              refine wpAnyH_take (i := 10) (v := ?_) rfl (by kernel_rfl) (by kernel_rfl) (by kernel_rfl) (fun _ _ _ h => h) (Or.inl ⟨?_, ?_⟩) (by assumption) ?_; rotate_left; rfl; focus (intro w hSw; (try dsimp only at hSw); go_simp; all_goals (with_reducible rfl))
              (try simp only [List.getElem_toArray, List.getElem_cons_zero, List.getElem_cons_succ, Act.put, List.setIfInBounds_toArray, List.set_cons_zero, List.set_cons_succ])
              refine wpAnyH_ready (rs := [12]) (by kernel_rfl) (by simp) ?_
              refine AllReadyH.cons rfl (fun K hK => ?_) AllReadyH.nil
              rw [if_pos (by rfl)]
              obtain ⟨sl, rfl⟩ := str_of s
              refine wp_store_blk 31 _ _ rfl b11 clZ.arr (Cl.mk xl (secC r) [] sl none 0).arr _ rfl rfl Hx11.blk rfl cl_size (Cl.ones _) ?_
              refine hK.out _ _ (ints_cell (Hx3.blk.grown (setRow_only W6 b11 (Cl.mk xl (secC r) [] sl none 0).arr) (Hx3.unlike Hx11)) r hr6) (fun hHeld => ?_)
              clear hK K
              have HF := CliMid.of HS Hx11 hx hsl hr6
              (try simp only [List.getElem_toArray, List.getElem_cons_zero, List.getElem_cons_succ, Act.put, List.setIfInBounds_toArray, List.set_cons_zero, List.set_cons_succ])
              refine wpAnyH_done (by kernel_rfl) ?_ _
              go_wp2_with fail
              go_meet
              exact HF
            · go_simp
              refine (S16.scope_walk zs g k W4 HS.tape).mono ?_
              rintro _ W5 ⟨s, k, hsl, rfl, ht, hg⟩
              go_simp
              replace Hx1 := Hx1.call hg
              replace Hx11 := Hx11.call hg
              replace HS := HS.call ht hg
              refine hK.out _ _ trivial (fun hHeld => ?_)
              clear hK K ht hg
              (try simp only [List.getElem_toArray, List.getElem_cons_zero, List.getElem_cons_succ, Act.put, List.setIfInBounds_toArray, List.set_cons_zero, List.set_cons_succ])
              refine wpAnyH_ready (rs := [3]) (by kernel_rfl) (by simp) ?_
              refine AllReadyH.cons rfl (fun K hK => ?_) AllReadyH.nil
              go_simp
              have hx3 := HS.made 3 cCi
              replace Hx1 := Hx1.alloc (.cells cCi 3)
              replace Hx11 := Hx11.alloc (.cells cCi 3)
              replace HS := HS.alloc (.cells cCi 3)
              generalize W5.alloc (.cells cCi 3) = W6 at HS Hx1 Hx11 hx3 ⊢
              generalize W5.heap.size = b3 at hx3 ⊢
              have Hx3 := hx3
              refine hK.out _ _ trivial (fun hHeld => ?_)
              clear hK K hx3
              (try simp only [List.getElem_toArray, List.getElem_cons_zero, List.getElem_cons_succ, Act.put, List.setIfInBounds_toArray, List.set_cons_zero, List.set_cons_succ])
              have hrI : (r : Int) < 6 := by omega
              have hHeld := ints_cell Hx3.blk r hr6
              refine K9.wpAnyH_grow (S' := fun W => W.cell? ⟨b3, r, none⟩ = some (.int .i64 (secC r))) (fun _ _ => trivial) _ _ _ _ ?_
              refine wpAnyH_take (i := 6) (v := ?_) rfl (by kernel_rfl) (by kernel_rfl) (by kernel_rfl) (fun _ _ _ h => h) (Or.inl ⟨?_, ?_⟩) (by assumption) ?_; rotate_left; rfl; focus (intro w hSw; (try dsimp only at hSw); go_simp; all_goals (with_reducible rfl))
              (try simp only [List.getElem_toArray, List.getElem_cons_zero, List.getElem_cons_succ, Act.put, List.setIfInBounds_toArray, List.set_cons_zero, List.set_cons_succ])
              refine wpAnyH_take (i := 7) (v := ?_) rfl (by kernel_rfl) (by kernel_rfl) (by kernel_rfl) (fun _ _ _ h => h) (Or.inl ⟨?_, ?_⟩) (by assumption) ?_; rotate_left; rfl; focus (intro w hSw; (try dsimp only at hSw); go_simp; all_goals (with_reducible rfl))
              (try simp only [List.getElem_toArray, List.getElem_cons_zero, List.getElem_cons_succ, Act.put, List.setIfInBounds_toArray, List.set_cons_zero, List.set_cons_succ])
              refine wpAnyH_take (i := 10) (v := ?_) rfl (by kernel_rfl) (by kernel_rfl) (by kernel_rfl) (fun _ _ _ h => h) (Or.inl ⟨?_, ?_⟩) (by assumption) ?_; rotate_left; rfl; focus (intro w hSw; (try dsimp only at hSw); go_simp; all_goals (with_reducible rfl))
              (try simp only [List.getElem_toArray, List.getElem_cons_zero, List.getElem_cons_succ, Act.put, List.setIfInBounds_toArray, List.set_cons_zero, List.set_cons_succ])
              refine wpAnyH_ready (rs := [12]) (by kernel_rfl) (by simp) ?_
              refine AllReadyH.cons rfl (fun K hK => ?_) AllReadyH.nil
              rw [if_pos (by rfl)]
              obtain ⟨sl, rfl⟩ := str_of s
              refine wp_store_blk 31 _ _ rfl b11 clZ.arr (Cl.mk xl (secC r) [] sl none 0).arr _ rfl rfl Hx11.blk rfl cl_size (Cl.ones _) ?_
              refine hK.out _ _ (ints_cell (Hx3.blk.grown (setRow_only W6 b11 (Cl.mk xl (secC r) [] sl none 0).arr) (Hx3.unlike Hx11)) r hr6) (fun hHeld => ?_)
              clear hK K
              have HF := CliMid.of HS Hx11 hx hsl hr6
              (try simp only [List.getElem_toArray, List.getElem_cons_zero, List.getElem_cons_succ, Act.put, List.setIfInBounds_toArray, List.set_cons_zero, List.set_cons_succ])
              refine wpAnyH_done (by kernel_rfl) ?_ _
              go_wp2_with fail
              go_meet
              exact HF
        · go_simp
          have hx11 := HS.made 31 cCz
          replace Hx1 := Hx1.alloc (.cells cCz 31)
          replace HS := HS.alloc (.cells cCz 31)
          generalize W2.alloc (.cells cCz 31) = W3 at HS Hx1 hx11 ⊢
          generalize W2.heap.size = b11 at hx11 ⊢
          have Hx11 := hx11
          refine hK.out _ _ trivial (fun hHeld => ?_)
          clear hK K hx11
          (try simp only [List.getElem_toArray, List.getElem_cons_zero, List.getElem_cons_succ, Act.put, List.setIfInBounds_toArray, List.set_cons_zero, List.set_cons_succ])
          refine wpAnyH_ready (rs := [3, 5]) (by kernel_rfl) (by simp) ?_
          refine AllReadyH.cons rfl (fun K hK => ?_) ( AllReadyH.cons rfl (fun K hK => ?_) AllReadyH.nil)
          · go_simp
            have hx3 := HS.made 3 cCi
            replace Hx1 := Hx1.alloc (.cells cCi 3)
            replace Hx11 := Hx11.alloc (.cells cCi 3)
            replace HS := HS.alloc (.cells cCi 3)
            generalize W3.alloc (.cells cCi 3) = W4 at HS Hx1 Hx11 hx3 ⊢
            generalize W3.heap.size = b3 at hx3 ⊢
            have Hx3 := hx3
            refine hK.out _ _ trivial (fun hHeld => ?_)
            clear hK K hx3
            (try simp only [List.getElem_toArray, List.getElem_cons_zero, List.getElem_cons_succ, Act.put, List.setIfInBounds_toArray, List.set_cons_zero, List.set_cons_succ])
            refine wpAnyH_ready (rs := [5]) (by kernel_rfl) (by simp) ?_
            refine AllReadyH.cons rfl (fun K hK => ?_) AllReadyH.nil
            go_simp
            refine (next_walk zs g k 6 W4 HS.tape (by omega)).mono ?_
            obtain ⟨r, er, hr6⟩ := next6 zs k
            rw [er]
            rintro _ W5 ⟨rfl, ht, hg, -⟩
            generalize nextA zs k 6 = k at ht
            clear er
            go_simp
            replace Hx1 := Hx1.call hg
            replace Hx11 := Hx11.call hg
            replace Hx3 := Hx3.call hg
            replace HS := HS.call ht hg
            refine hK.out _ _ trivial (fun hHeld => ?_)
            clear hK K ht hg
            (try simp only [List.getElem_toArray, List.getElem_cons_zero, List.getElem_cons_succ, Act.put, List.setIfInBounds_toArray, List.set_cons_zero, List.set_cons_succ])
            have hrI : (r : Int) < 6 := by omega
            have hHeld := ints_cell Hx3.blk r hr6
            refine K9.wpAnyH_grow (S' := fun W => W.cell? ⟨b3, r, none⟩ = some (.int .i64 (secC r))) (fun _ _ => trivial) _ _ _ _ ?_
            refine wpAnyH_take (i := 6) (v := ?_) rfl (by kernel_rfl) (by kernel_rfl) (by kernel_rfl) (fun _ _ _ h => h) (Or.inl ⟨?_, ?_⟩) (by assumption) ?_; rotate_left; rfl; focus (intro w hSw; (try dsimp only at hSw); go_simp; all_goals (with_reducible rfl))
            (try simp only [List.getElem_toArray, List.getElem_cons_zero, List.getElem_cons_succ, Act.put, List.setIfInBounds_toArray, List.set_cons_zero, List.set_cons_succ])
            refine wpAnyH_take (i := 7) (v := ?_) rfl (by kernel_rfl) (by kernel_rfl) (by kernel_rfl) (fun _ _ _ h => h) (Or.inl ⟨?_, ?_⟩) (by assumption) ?_; rotate_left; rfl; focus (intro w hSw; (try dsimp only at hSw); go_simp; all_goals (with_reducible rfl))
            (try simp only [List.getElem_toArray, List.getElem_cons_zero, List.getElem_cons_succ, Act.put, List.setIfInBounds_toArray, List.set_cons_zero, List.set_cons_succ])
            refine wpAnyH_ready (rs := [9]) (by kernel_rfl) (by simp) ?_
            refine AllReadyH.cons rfl (fun K hK => ?_) AllReadyH.nil
            go_simp
            refine (S16.scope_walk zs g k W5 HS.tape).mono ?_
            rintro _ W6 ⟨s, k, hsl, rfl, ht, hg⟩
            go_simp
            replace Hx1 := Hx1.call hg
            replace Hx11 := Hx11.call hg
            replace Hx3 := Hx3.call hg
            replace HS := HS.call ht hg
            refine hK.out _ _ (ints_cell Hx3.blk r hr6) (fun hHeld => ?_)
            clear hK K ht hg
            (try simp only [List.getElem_toArray, List.getElem_cons_zero, List.getElem_cons_succ, Act.put, List.setIfInBounds_toArray, List.set_cons_zero, List.set_cons_succ])
            refine wpAnyH_take (i := 10) (v := ?_) rfl (by kernel_rfl) (by kernel_rfl) (by kernel_rfl) (fun _ _ _ h => h) (Or.inl ⟨?_, ?_⟩) (by assumption) ?_; rotate_left; rfl; focus (intro w hSw; (try dsimp only at hSw); go_simp; all_goals (with_reducible rfl))
            (try simp only [List.getElem_toArray, List.getElem_cons_zero, List.getElem_cons_succ, Act.put, List.setIfInBounds_toArray, List.set_cons_zero, List.set_cons_succ])
            refine wpAnyH_ready (rs := [12]) (by kernel_rfl) (by simp) ?_
            refine AllReadyH.cons rfl (fun K hK => ?_) AllReadyH.nil
            rw [if_pos (by rfl)]
            obtain ⟨sl, rfl⟩ := str_of s
            refine wp_store_blk 31 _ _ rfl b11 clZ.arr (Cl.mk xl (secC r) [] sl none 0).arr _ rfl rfl Hx11.blk rfl cl_size (Cl.ones _) ?_
            refine hK.out _ _ (ints_cell (Hx3.blk.grown (setRow_only W6 b11 (Cl.mk xl (secC r) [] sl none 0).arr) (Hx3.unlike Hx11)) r hr6) (fun hHeld => ?_)
            clear hK K
            have HF := CliMid.of HS Hx11 hx hsl hr6
            (try simp only [List.getElem_toArray, List.getElem_cons_zero, List.getElem_cons_succ, Act.put, List.setIfInBounds_toArray, List.set_cons_zero, List.set_cons_succ])
            refine wpAnyH_done (by kernel_rfl) ?_ _
            go_wp2_with fail
            go_meet
            exact HF
          · go_simp
            refine (next_walk zs g k 6 W3 HS.tape (by omega)).mono ?_
            obtain ⟨r, er, hr6⟩ := next6 zs k
            rw [er]
            rintro _ W4 ⟨rfl, ht, hg, -⟩
            generalize nextA zs k 6 = k at ht
            clear er
            go_simp
            replace Hx1 := Hx1.call hg
            replace Hx11 := Hx11.call hg
            replace HS := HS.call ht hg
            refine hK.out _ _ trivial (fun hHeld => ?_)
            clear hK K ht hg
            (try simp only [List.getElem_toArray, List.getElem_cons_zero, List.getElem_cons_succ, Act.put, List.setIfInBounds_toArray, List.set_cons_zero, List.set_cons_succ])
            refine wpAnyH_ready (rs := [3, 9]) (by kernel_rfl) (by simp) ?_
            refine AllReadyH.cons rfl (fun K hK => ?_) ( AllReadyH.cons rfl (fun K hK => ?_) AllReadyH.nil)
            · go_simp
              have hx3 := HS.made 3 cCi
              replace Hx1 := Hx1.alloc (.cells cCi 3)
              replace Hx11 := Hx11.alloc (.cells cCi 3)
              replace HS := HS.alloc (.cells cCi 3)
              generalize W4.alloc (.cells cCi 3) = W5 at HS Hx1 Hx11 hx3 ⊢
              generalize W4.heap.size = b3 at hx3 ⊢
              have Hx3 := hx3
              refine hK.out _ _ trivial (fun hHeld => ?_)
              clear hK K hx3
              (try simp only [List.getElem_toArray, List.getElem_cons_zero, List.getElem_cons_succ, Act.put, List.setIfInBounds_toArray, List.set_cons_zero, List.set_cons_succ])
              have hrI : (r : Int) < 6 := by omega
              have hHeld := ints_cell Hx3.blk r hr6
              refine K9.wpAnyH_grow (S' := fun W => W.cell? ⟨b3, r, none⟩ = some (.int .i64 (secC r))) (fun _ _ => trivial) _ _ _ _ ?_
              refine wpAnyH_take (i := 6) (v := ?_) rfl (by kernel_rfl) (by kernel_rfl) (by kernel_rfl) (fun _ _ _ h => h) (Or.inl ⟨?_, ?_⟩) (by assumption) ?_; rotate_left; rfl; focus (intro w hSw; (try dsimp only at hSw); go_simp; all_goals (with_reducible rfl))
              (try simp only [List.getElem_toArray, List.getElem_cons_zero, List.getElem_cons_succ, Act.put, List.setIfInBounds_toArray, List.set_cons_zero, List.set_cons_succ])
              refine wpAnyH_take (i := 7) (v := ?_) rfl (by kernel_rfl) (by kernel_rfl) (by kernel_rfl) (fun _ _ _ h => h) (Or.inl ⟨?_, ?_⟩) (by assumption) ?_; rotate_left; rfl; focus (intro w hSw; (try dsimp only at hSw); go_simp; all_goals (with_reducible rfl))
              (try simp only [List.getElem_toArray, List.getElem_cons_zero, List.getElem_cons_succ, Act.put, List.setIfInBounds_toArray, List.set_cons_zero, List.set_cons_succ])
              refine wpAnyH_ready (rs := [9]) (by kernel_rfl) (by simp) ?_
              refine AllReadyH.cons rfl (fun K hK => ?_) AllReadyH.nil
              go_simp
              refine (S16.scope_walk zs g k W5 HS.tape).mono ?_
              rintro _ W6 ⟨s, k, hsl, rfl, ht, hg⟩
              go_simp
              replace Hx1 := Hx1.call hg
              replace Hx11 := Hx11.call hg
              replace Hx3 := Hx3.call hg
              replace HS := HS.call ht hg
              refine hK.out _ _ (ints_cell Hx3.blk r hr6) (fun hHeld => ?_)
              clear hK K ht hg
              (try simp only [List.getElem_toArray, List.getElem_cons_zero, List.getElem_cons_succ, Act.put, List.setIfInBounds_toArray, List.set_cons_zero, List.set_cons_succ])
              refine wpAnyH_take (i := 10) (v := ?_) rfl (by kernel_rfl) (by kernel_rfl) (by kernel_rfl) (fun _ _ _ h => h) (Or.inl ⟨?_, ?_⟩) (by assumption) ?_; rotate_left; rfl; focus (intro w hSw; (try dsimp only at hSw); go_simp; all_goals (with_reducible rfl))
              (try simp only [List.getElem_toArray, List.getElem_cons_zero, List.getElem_cons_succ, Act.put, List.setIfInBounds_toArray, List.set_cons_zero, List.set_cons_succ])
              refine wpAnyH_ready (rs := [12]) (by kernel_rfl) (by simp) ?_
              refine AllReadyH.cons rfl (fun K hK => ?_) AllReadyH.nil
              rw [if_pos (by rfl)]
              obtain ⟨sl, rfl⟩ := str_of s
              refine wp_store_blk 31 _ _ rfl b11 clZ.arr (Cl.mk xl (secC r) [] sl none 0).arr _ rfl rfl Hx11.blk rfl cl_size (Cl.ones _) ?_
              refine hK.out _ _ (ints_cell (Hx3.blk.grown (setRow_only W6 b11 (Cl.mk xl (secC r) [] sl none 0).arr) (Hx3.unlike Hx11)) r hr6) (fun hHeld => ?_)
              clear hK K
              have HF := CliMid.of HS Hx11 hx hsl hr6
              (try simp only [List.getElem_toArray, List.getElem_cons_zero, List.getElem_cons_succ, Act.put, List.setIfInBounds_toArray, List.set_cons_zero, List.set_cons_succ])
              refine wpAnyH_done (by kernel_rfl) ?_ _
              go_wp2_with fail
              go_meet
              exact HF
            · go_simp
              refine (S16.scope_walk zs g k W4 HS.tape).mono ?_
              rintro _ W5 ⟨s, k, hsl, rfl, ht, hg⟩
              go_simp
              replace Hx1 := Hx1.call hg
              replace Hx11 := Hx11.call hg
              replace HS := HS.call ht hg
              refine hK.out _ _ trivial (fun hHeld => ?_)
              clear hK K ht hg
              (try simp only [List.getElem_toArray, List.getElem_cons_zero, List.getElem_cons_succ, Act.put, List.setIfInBounds_toArray, List.set_cons_zero, List.set_cons_succ])
              refine wpAnyH_ready (rs := [3]) (by kernel_rfl) (by simp) ?_
              refine AllReadyH.cons rfl (fun K hK => ?_) AllReadyH.nil
              go_simp
              have hx3 := HS.made 3 cCi
              replace Hx1 := Hx1.alloc (.cells cCi 3)
              replace Hx11 := Hx11.alloc (.cells cCi 3)
              replace HS := HS.alloc (.cells cCi 3)
              generalize W5.alloc (.cells cCi 3) = W6 at HS Hx1 Hx11 hx3 ⊢
              generalize W5.heap.size = b3 at hx3 ⊢
              have Hx3 := hx3
              refine hK.out _ _ trivial (fun hHeld => ?_)
              clear hK K hx3
              (try simp only [List.getElem_toArray, List.getElem_cons_zero, List.getElem_cons_succ, Act.put, List.setIfInBounds_toArray, List.set_cons_zero, List.set_cons_succ])
              have hrI : (r : Int) < 6 := by omega
              have hHeld := ints_cell Hx3.blk r hr6
              refine K9.wpAnyH_grow (S' := fun W => W.cell? ⟨b3, r, none⟩ = some (.int .i64 (secC r))) (fun _ _ => trivial) _ _ _ _ ?_
              refine wpAnyH_take (i := 6) (v := ?_) rfl (by kernel_rfl) (by kernel_rfl) (by kernel_rfl) (fun _ _ _ h => h) (Or.inl ⟨?_, ?_⟩) (by assumption) ?_; rotate_left; rfl; focus (intro w hSw; (try dsimp only at hSw); go_simp; all_goals (with_reducible rfl))
              (try simp only [List.getElem_toArray, List.getElem_cons_zero, List.getElem_cons_succ, Act.put, List.setIfInBounds_toArray, List.set_cons_zero, List.set_cons_succ])
              refine wpAnyH_take (i := 7) (v := ?_) rfl (by kernel_rfl) (by kernel_rfl) (by kernel_rfl) (fun _ _ _ h => h) (Or.inl ⟨?_, ?_⟩) (by assumption) ?_; rotate_left; rfl; focus (intro w hSw; (try dsimp only at hSw); go_simp; all_goals (with_reducible rfl))
              (try simp only [List.getElem_toArray, List.getElem_cons_zero, List.getElem_cons_succ, Act.put, List.setIfInBounds_toArray, List.set_cons_zero, List.set_cons_succ])
              refine wpAnyH_take (i := 10) (v := ?_) rfl (by kernel_rfl) (by kernel_rfl) (by kernel_rfl) (fun _ _ _ h => h) (Or.inl ⟨?_, ?_⟩) (by assumption) ?_; rotate_left; rfl; focus (intro w hSw; (try dsimp only at hSw); go_simp; all_goals (with_reducible rfl))
              (try simp only [List.getElem_toArray, List.getElem_cons_zero, List.getElem_cons_succ, Act.put, List.setIfInBounds_toArray, List.set_cons_zero, List.set_cons_succ])
              refine wpAnyH_ready (rs := [12]) (by kernel_rfl) (by simp) ?_
              refine AllReadyH.cons rfl (fun K hK => ?_) AllReadyH.nil
              rw [if_pos (by rfl)]
              obtain ⟨sl, rfl⟩ := str_of s
              refine wp_store_blk 31 _ _ rfl b11 clZ.arr (Cl.mk xl (secC r) [] sl none 0).arr _ rfl rfl Hx11.blk rfl cl_size (Cl.ones _) ?_
              refine hK.out _ _ (ints_cell (Hx3.blk.grown (setRow_only W6 b11 (Cl.mk xl (secC r) [] sl none 0).arr) (Hx3.unlike Hx11)) r hr6) (fun hHeld => ?_)
              clear hK K
              have HF := CliMid.of HS Hx11 hx hsl hr6
              (try simp only [List.getElem_toArray, List.getElem_cons_zero, List.getElem_cons_succ, Act.put, List.setIfInBounds_toArray, List.set_cons_zero, List.set_cons_succ])
              refine wpAnyH_done (by kernel_rfl) ?_ _
              go_wp2_with fail
              go_meet
              exact HF
      · go_simp
        have hx3 := HS.made 3 cCi
        replace Hx1 := Hx1.alloc (.cells cCi 3)
        replace HS := HS.alloc (.cells cCi 3)
        generalize W1.alloc (.cells cCi 3) = W2 at HS Hx1 hx3 ⊢
        generalize W1.heap.size = b3 at hx3 ⊢
        have Hx3 := hx3
        refine hK.out _ _ trivial (fun hHeld => ?_)
        clear hK K hx3
        (try simp only [List.getElem_toArray, List.getElem_cons_zero, List.getElem_cons_succ, Act.put, List.setIfInBounds_toArray, List.set_cons_zero, List.set_cons_succ])
        refine wpAnyH_ready (rs := [2, 11]) (by kernel_rfl) (by simp) ?_
        refine AllReadyH.cons rfl (fun K hK => ?_) ( AllReadyH.cons rfl (fun K hK => ?_) AllReadyH.nil)
        · go_simp
          refine (pick_walk zs g k _ 6 (b1 + 1) rowsC1 (by decide) (by decide) (by decide) W2 HS.tape (reads_blk (us := rowsC1.map Value.string) Hx1.blk) Hx1.lt Hx1.ne).mono ?_
          obtain ⟨xl, ex, hx⟩ := rowsC1_ok zs k
          rw [ex]
          rintro _ W3 ⟨rfl, ht, hg, -⟩
          generalize nextA zs k rowsC1.length = k at ht
          clear ex
          go_simp
          replace Hx1 := Hx1.call hg
          replace Hx3 := Hx3.call hg
          replace HS := HS.call ht hg
          refine hK.out _ _ trivial (fun hHeld => ?_)
          clear hK K ht hg
          (try simp only [List.getElem_toArray, List.getElem_cons_zero, List.getElem_cons_succ, Act.put, List.setIfInBounds_toArray, List.set_cons_zero, List.set_cons_succ])
          refine wpAnyH_ready (rs := [5, 11]) (by kernel_rfl) (by simp) ?_
          refine AllReadyH.cons rfl (fun K hK => ?_) ( AllReadyH.cons rfl (fun K hK => ?_) AllReadyH.nil)
          · go_simp
            refine (next_walk zs g k 6 W3 HS.tape (by omega)).mono ?_
            obtain ⟨r, er, hr6⟩ := next6 zs k
            rw [er]
            rintro _ W4 ⟨rfl, ht, hg, -⟩
            generalize nextA zs k 6 = k at ht
            clear er
            go_simp
            replace Hx1 := Hx1.call hg
            replace Hx3 := Hx3.call hg
            replace HS := HS.call ht hg
            refine hK.out _ _ trivial (fun hHeld => ?_)
            clear hK K ht hg
            (try simp only [List.getElem_toArray, List.getElem_cons_zero, List.getElem_cons_succ, Act.put, List.setIfInBounds_toArray, List.set_cons_zero, List.set_cons_succ])
            have hrI : (r : Int) < 6 := by omega
            have hHeld := ints_cell Hx3.blk r hr6
            refine K9.wpAnyH_grow (S' := fun W => W.cell? ⟨b3, r, none⟩ = some (.int .i64 (secC r))) (fun _ _ => trivial) _ _ _ _ ?_
            refine wpAnyH_take (i := 6) (v := ?_) rfl (by kernel_rfl) (by kernel_rfl) (by kernel_rfl) (fun _ _ _ h => h) (Or.inl ⟨?_, ?_⟩) (by assumption) ?_; rotate_left; rfl; focus (intro w hSw; (try dsimp only at hSw); go_simp; all_goals (with_reducible rfl))
            (try simp only [List.getElem_toArray, List.getElem_cons_zero, List.getElem_cons_succ, Act.put, List.setIfInBounds_toArray, List.set_cons_zero, List.set_cons_succ])
            refine wpAnyH_take (i := 7) (v := ?_) rfl (by kernel_rfl) (by kernel_rfl) (by kernel_rfl) (fun _ _ _ h => h) (Or.inl ⟨?_, ?_⟩) (by assumption) ?_; rotate_left; rfl; focus (intro w hSw; (try dsimp only at hSw); go_simp; all_goals (with_reducible rfl))
            (try simp only [List.getElem_toArray, List.getElem_cons_zero, List.getElem_cons_succ, Act.put, List.setIfInBounds_toArray, List.set_cons_zero, List.set_cons_succ])
            refine wpAnyH_ready (rs := [9, 11]) (by kernel_rfl) (by simp) ?_
            refine AllReadyH.cons rfl (fun K hK => ?_) ( AllReadyH.cons rfl (fun K hK => ?_) AllReadyH.nil)
            · go_simp
              refine (S16.scope_walk zs g k W4 HS.tape).mono ?_
              rintro _ W5 ⟨s, k, hsl, rfl, ht, hg⟩
              go_simp
              replace Hx1 := Hx1.call hg
              replace Hx3 := Hx3.call hg
              replace HS := HS.call ht hg
              refine hK.out _ _ (ints_cell Hx3.blk r hr6) (fun hHeld => ?_)
              clear hK K ht hg
              (try simp only [List.getElem_toArray, List.getElem_cons_zero, List.getElem_cons_succ, Act.put, List.setIfInBounds_toArray, List.set_cons_zero, List.set_cons_succ])
              refine wpAnyH_take (i := 10) (v := ?_) rfl (by kernel_rfl) (by kernel_rfl) (by kernel_rfl) (fun _ _ _ h => h) (Or.inl ⟨?_, ?_⟩) (by assumption) ?_; rotate_left; rfl; focus (intro w hSw; (try dsimp only at hSw); go_simp; all_goals (with_reducible rfl))
              (try simp only [List.getElem_toArray, List.getElem_cons_zero, List.getElem_cons_succ, Act.put, List.setIfInBounds_toArray, List.set_cons_zero, List.set_cons_succ])
              refine wpAnyH_ready (rs := [11]) (by kernel_rfl) (by simp) ?_
              refine AllReadyH.cons rfl (fun K hK => ?_) AllReadyH.nil
              go_simp
              have hx11 := HS.made 31 cCz
              replace Hx1 := Hx1.alloc (.cells cCz 31)
              replace Hx3 := Hx3.alloc (.cells cCz 31)
              replace HS := HS.alloc (.cells cCz 31)
              generalize W5.alloc (.cells cCz 31) = W6 at HS Hx1 Hx3 hx11 ⊢
              generalize W5.heap.size = b11 at hx11 ⊢
              have Hx11 := hx11
              refine hK.out _ _ (ints_cell Hx3.blk r hr6) (fun hHeld => ?_)
              clear hK K hx11
              (try simp only [List.getElem_toArray, List.getElem_cons_zero, List.getElem_cons_succ, Act.put, List.setIfInBounds_toArray, List.set_cons_zero, List.set_cons_succ])
              refine wpAnyH_ready (rs := [12]) (by kernel_rfl) (by simp) ?_
              refine AllReadyH.cons rfl (fun K hK => ?_) AllReadyH.nil
              rw [if_pos (by rfl)]
              obtain ⟨sl, rfl⟩ := str_of s
              refine wp_store_blk 31 _ _ rfl b11 clZ.arr (Cl.mk xl (secC r) [] sl none 0).arr _ rfl rfl Hx11.blk rfl cl_size (Cl.ones _) ?_
              refine hK.out _ _ (ints_cell (Hx3.blk.grown (setRow_only W6 b11 (Cl.mk xl (secC r) [] sl none 0).arr) (Hx3.unlike Hx11)) r hr6) (fun hHeld => ?_)
              clear hK K
              have HF := CliMid.of HS Hx11 hx hsl hr6
              (try simp only [List.getElem_toArray, List.getElem_cons_zero, List.getElem_cons_succ, Act.put, List.setIfInBounds_toArray, List.set_cons_zero, List.set_cons_succ])
              refine wpAnyH_done (by kernel_rfl) ?_ _
              go_wp2_with fail
              go_meet
              exact HF
            · go_simp
              have hx11 := HS.made 31 cCz
              replace Hx1 := Hx1.alloc (.cells cCz 31)
              replace Hx3 := Hx3.alloc (.cells cCz 31)
              replace HS := HS.alloc (.cells cCz 31)
              generalize W4.alloc (.cells cCz 31) = W5 at HS Hx1 Hx3 hx11 ⊢
              generalize W4.heap.size = b11 at hx11 ⊢
              have Hx11 := hx11
              refine hK.out _ _ (ints_cell Hx3.blk r hr6) (fun hHeld => ?_)
              clear hK K hx11
              (try simp only [List.getElem_toArray, List.getElem_cons_zero, List.getElem_cons_succ, Act.put, List.setIfInBounds_toArray, List.set_cons_zero, List.set_cons_succ])
              refine wpAnyH_ready (rs := [9]) (by kernel_rfl) (by simp) ?_
              refine AllReadyH.cons rfl (fun K hK => ?_) AllReadyH.nil
              go_simp
              refine (S16.scope_walk zs g k W5 HS.tape).mono ?_
              rintro _ W6 ⟨s, k, hsl, rfl, ht, hg⟩
              go_simp
              replace Hx1 := Hx1.call hg
              replace Hx3 := Hx3.call hg
              replace Hx11 := Hx11.call hg
              replace HS := HS.call ht hg
              refine hK.out _ _ (ints_cell Hx3.blk r hr6) (fun hHeld => ?_)
              clear hK K ht hg
              (try simp only [List.getElem_toArray, List.getElem_cons_zero, List.getElem_cons_succ, Act.put, List.setIfInBounds_toArray, List.set_cons_zero, List.set_cons_succ])
              refine wpAnyH_take (i := 10) (v := ?_) rfl (by kernel_rfl) (by kernel_rfl) (by kernel_rfl) (fun _ _ _ h => h) (Or.inl ⟨?_, ?_⟩) (by assumption) ?_; rotate_left; rfl; focus (intro w hSw; (try dsimp only at hSw); go_simp; all_goals (with_reducible rfl))
              (try simp only [List.getElem_toArray, List.getElem_cons_zero, List.getElem_cons_succ, Act.put, List.setIfInBounds_toArray, List.set_cons_zero, List.set_cons_succ])
              refine wpAnyH_ready (rs := [12]) (by kernel_rfl) (by simp) ?_
              refine AllReadyH.cons rfl (fun K hK => ?_) AllReadyH.nil
              rw [if_pos (by rfl)]
              obtain ⟨sl, rfl⟩ := str_of s
              refine wp_store_blk 31 _ _ rfl b11 clZ.arr (Cl.mk xl (secC r) [] sl none 0).arr _ rfl rfl Hx11.blk rfl cl_size (Cl.ones _) ?_
              refine hK.out _ _ (ints_cell (Hx3.blk.grown (setRow_only W6 b11 (Cl.mk xl (secC r) [] sl none 0).arr) (Hx3.unlike Hx11)) r hr6) (fun hHeld => ?_)
              clear hK K
              have HF := CliMid.of HS Hx11 hx hsl hr6
              (try simp only [List.getElem_toArray, List.getElem_cons_zero, List.getElem_cons_succ, Act.put, List.setIfInBounds_toArray, List.set_cons_zero, List.set_cons_succ])
              refine wpAnyH_done (by kernel_rfl) ?_ _
              go_wp2_with fail
              go_meet
              exact HF
          · go_simp
            have hx11 := HS.made 31 cCz
            replace Hx1 := Hx1.alloc (.cells cCz 31)
            replace Hx3 := Hx3.alloc (.cells cCz 31)
            replace HS := HS.alloc (.cells cCz 31)
            generalize W3.alloc (.cells cCz 31) = W4 at HS Hx1 Hx3 hx11 ⊢
            generalize W3.heap.size = b11 at hx11 ⊢
            have Hx11 := hx11
            refine hK.out _ _ trivial (fun hHeld => ?_)
            clear hK K hx11
            (try simp only [List.getElem_toArray, List.getElem_cons_zero, List.getElem_cons_succ, Act.put, List.setIfInBounds_toArray, List.set_cons_zero, List.set_cons_succ])
            refine wpAnyH_ready (rs := [5]) (by kernel_rfl) (by simp) ?_
            refine AllReadyH.cons rfl (fun K hK => ?_) AllReadyH.nil
            go_simp
            refine (next_walk zs g k 6 W4 HS.tape (by omega)).mono ?_
            obtain ⟨r, er, hr6⟩ := next6 zs k
            rw [er]
            rintro _ W5 ⟨rfl, ht, hg, -⟩
            generalize nextA zs k 6 = k at ht
            clear er
            go_simp
            replace Hx1 := Hx1.call hg
            replace Hx3 := Hx3.call hg
            replace Hx11 := Hx11.call hg
            replace HS := HS.call ht hg
            refine hK.out _ _ trivial (fun hHeld => ?_)
            clear hK K ht hg
            (try simp only [List.getElem_toArray, List.getElem_cons_zero, List.getElem_cons_succ, Act.put, List.setIfInBounds_toArray, List.set_cons_zero, List.set_cons_succ])
            have hrI : (r : Int) < 6 := by omega
            have hHeld := ints_cell Hx3.blk r hr6
            refine K9.wpAnyH_grow (S' := fun W => W.cell? ⟨b3, r, none⟩ = some (.int .i64 (secC r))) (fun _ _ => trivial) _ _ _ _ ?_
            refine wpAnyH_take (i := 6) (v := ?_) rfl (by kernel_rfl) (by kernel_rfl) (by kernel_rfl) (fun _ _ _ h => h) (Or.inl ⟨?_, ?_⟩) (by assumption) ?_; rotate_left; rfl; focus (intro w hSw; (try dsimp only at hSw); go_simp; all_goals (with_reducible rfl))
            (try simp only [List.getElem_toArray, List.getElem_cons_zero, List.getElem_cons_succ, Act.put, List.setIfInBounds_toArray, List.set_cons_zero, List.set_cons_succ])
            refine wpAnyH_take (i := 7) (v := ?_) rfl (by kernel_rfl) (by kernel_rfl) (by kernel_rfl) (fun _ _ _ h => h) (Or.inl ⟨?_, ?_⟩) (by assumption) ?_; rotate_left; rfl; focus (intro w hSw; (try dsimp only at hSw); go_simp; all_goals (with_reducible rfl))
            (try simp only [List.getElem_toArray, List.getElem_cons_zero, List.getElem_cons_succ, Act.put, List.setIfInBounds_toArray, List.set_cons_zero, List.set_cons_succ])
            refine wpAnyH_ready (rs := [9]) (by kernel_rfl) (by simp) ?_
            refine AllReadyH.cons rfl (fun K hK => ?_) AllReadyH.nil
            go_simp
            refine (S16.scope_walk zs g k W5 HS.tape).mono ?_
            rintro _ W6 ⟨s, k, hsl, rfl, ht, hg⟩
            go_simp
            replace Hx1 := Hx1.call hg
            replace Hx3 := Hx3.call hg
            replace Hx11 := Hx11.call hg
            replace HS := HS.call ht hg
            refine hK.out _ _ (ints_cell Hx3.blk r hr6) (fun hHeld => ?_)
            clear hK K ht hg
            (try simp only [List.getElem_toArray, List.getElem_cons_zero, List.getElem_cons_succ, Act.put, List.setIfInBounds_toArray, List.set_cons_zero, List.set_cons_succ])
            refine wpAnyH_take (i := 10) (v := ?_) rfl (by kernel_rfl) (by kernel_rfl) (by kernel_rfl) (fun _ _ _ h => h) (Or.inl ⟨?_, ?_⟩) (by assumption) ?_; rotate_left; rfl; focus (intro w hSw; (try dsimp only at hSw); go_simp; all_goals (with_reducible rfl))
            (try simp only [List.getElem_toArray, List.getElem_cons_zero, List.getElem_cons_succ, Act.put, List.setIfInBounds_toArray, List.set_cons_zero, List.set_cons_succ])
            refine wpAnyH_ready (rs := [12]) (by kernel_rfl) (by simp) ?_
            refine AllReadyH.cons rfl (fun K hK => ?_) AllReadyH.nil
            rw [if_pos (by rfl)]
            obtain ⟨sl, rfl⟩ := str_of s
            refine wp_store_blk 31 _ _ rfl b11 clZ.arr (Cl.mk xl (secC r) [] sl none 0).arr _ rfl rfl Hx11.blk rfl cl_size (Cl.ones _) ?_
            refine hK.out _ _ (ints_cell (Hx3.blk.grown (setRow_only W6 b11 (Cl.mk xl (secC r) [] sl none 0).arr) (Hx3.unlike Hx11)) r hr6) (fun hHeld => ?_)
            clear hK K
            have HF := CliMid.of HS Hx11 hx hsl hr6
            (try simp only [List.getElem_toArray, List.getElem_cons_zero, List.getElem_cons_succ, Act.put, List.setIfInBounds_toArray, List.set_cons_zero, List.set_cons_succ])
            refine wpAnyH_done (by kernel_rfl) ?_ _
            go_wp2_with fail
            go_meet
            exact HF
        · go_simp
          have hx11 := HS.made 31 cCz
          replace Hx1 := Hx1.alloc (.cells cCz 31)
          replace Hx3 := Hx3.alloc (.cells cCz 31)
          replace HS := HS.alloc (.cells cCz 31)
          generalize W2.alloc (.cells cCz 31) = W3 at HS Hx1 Hx3 hx11 ⊢
          generalize W2.heap.size = b11 at hx11 ⊢
          have Hx11 := hx11
          refine hK.out _ _ trivial (fun hHeld => ?_)
          clear hK K hx11
          (try simp only [List.getElem_toArray, List.getElem_cons_zero, List.getElem_cons_succ, Act.put, List.setIfInBounds_toArray, List.set_cons_zero, List.set_cons_succ])
          refine wpAnyH_ready (rs := [2]) (by kernel_rfl) (by simp) ?_
          refine AllReadyH.cons rfl (fun K hK => ?_) AllReadyH.nil
          go_simp
          refine (pick_walk zs g k _ 6 (b1 + 1) rowsC1 (by decide) (by decide) (by decide) W3 HS.tape (reads_blk (us := rowsC1.map Value.string) Hx1.blk) Hx1.lt Hx1.ne).mono ?_
          obtain ⟨xl, ex, hx⟩ := rowsC1_ok zs k
          rw [ex]
          rintro _ W4 ⟨rfl, ht, hg, -⟩
          generalize nextA zs k rowsC1.length = k at ht
          clear ex
          go_simp
          replace Hx1 := Hx1.call hg
          replace Hx3 := Hx3.call hg
          replace Hx11 := Hx11.call hg
          replace HS := HS.call ht hg
          refine hK.out _ _ trivial (fun hHeld => ?_)
          clear hK K ht hg
          (try simp only [List.getElem_toArray, List.getElem_cons_zero, List.getElem_cons_succ, Act.put, List.setIfInBounds_toArray, List.set_cons_zero, List.set_cons_succ])
          refine wpAnyH_ready (rs := [5]) (by kernel_rfl) (by simp) ?_
          refine AllReadyH.cons rfl (fun K hK => ?_) AllReadyH.nil
          go_simp
          refine (next_walk zs g k 6 W4 HS.tape (by omega)).mono ?_
          obtain ⟨r, er, hr6⟩ := next6 zs k
          rw [er]
          rintro _ W5 ⟨rfl, ht, hg, -⟩
          generalize nextA zs k 6 = k at ht
          clear er
          go_simp
          replace Hx1 := Hx1.call hg
          replace Hx3 := Hx3.call hg
          replace Hx11 := Hx11.call hg
          replace HS := HS.call ht hg
          refine hK.out _ _ trivial (fun hHeld => ?_)
          clear hK K ht hg
          (try simp only [List.getElem_toArray, List.getElem_cons_zero, List.getElem_cons_succ, Act.put, List.setIfInBounds_toArray, List.set_cons_zero, List.set_cons_succ])
          have hrI : (r : Int) < 6 := by omega
          have hHeld := ints_cell Hx3.blk r hr6
          refine K9.wpAnyH_grow (S' := fun W => W.cell? ⟨b3, r, none⟩ = some (.int .i64 (secC r))) (fun _ _ => trivial) _ _ _ _ ?_
          refine wpAnyH_take (i := 6) (v := ?_) rfl (by kernel_rfl) (by kernel_rfl) (by kernel_rfl) (fun _ _ _ h => h) (Or.inl ⟨?_, ?_⟩) (by assumption) ?_; rotate_left; rfl; focus (intro w hSw; (try dsimp only at hSw); go_simp; all_goals (with_reducible rfl))
          (try simp only [List.getElem_toArray, List.getElem_cons_zero, List.getElem_cons_succ, Act.put, List.setIfInBounds_toArray, List.set_cons_zero, List.set_cons_succ])
          refine wpAnyH_take (i := 7) (v := ?_) rfl (by kernel_rfl) (by kernel_rfl) (by kernel_rfl) (fun _ _ _ h => h) (Or.inl ⟨?_, ?_⟩) (by assumption) ?_; rotate_left; rfl; focus (intro w hSw; (try dsimp only at hSw); go_simp; all_goals (with_reducible rfl))
          (try simp only [List.getElem_toArray, List.getElem_cons_zero, List.getElem_cons_succ, Act.put, List.setIfInBounds_toArray, List.set_cons_zero, List.set_cons_succ])
          refine wpAnyH_ready (rs := [9]) (by kernel_rfl) (by simp) ?_
          refine AllReadyH.cons rfl (fun K hK => ?_) AllReadyH.nil
          go_simp
          refine (S16.scope_walk zs g k W5 HS.tape).mono ?_
          rintro _ W6 ⟨s, k, hsl, rfl, ht, hg⟩
          go_simp
          replace Hx1 := Hx1.call hg
          replace Hx3 := Hx3.call hg
          replace Hx11 := Hx11.call hg
          replace HS := HS.call ht hg
          refine hK.out _ _ (ints_cell Hx3.blk r hr6) (fun hHeld => ?_)
          clear hK K ht hg
          (try simp only [List.getElem_toArray, List.getElem_cons_zero, List.getElem_cons_succ, Act.put, List.setIfInBounds_toArray, List.set_cons_zero, List.set_cons_succ])
          refine wpAnyH_take (i := 10) (v := ?_) rfl (by kernel_rfl) (by kernel_rfl) (by kernel_rfl) (fun _ _ _ h => h) (Or.inl ⟨?_, ?_⟩) (by assumption) ?_; rotate_left; rfl; focus (intro w hSw; (try dsimp only at hSw); go_simp; all_goals (with_reducible rfl))
          (try simp only [List.getElem_toArray, List.getElem_cons_zero, List.getElem_cons_succ, Act.put, List.setIfInBounds_toArray, List.set_cons_zero, List.set_cons_succ])
          refine wpAnyH_ready (rs := [12]) (by kernel_rfl) (by simp) ?_
          refine AllReadyH.cons rfl (fun K hK => ?_) AllReadyH.nil
          rw [if_pos (by rfl)]
          obtain ⟨sl, rfl⟩ := str_of s
          refine wp_store_blk 31 _ _ rfl b11 clZ.arr (Cl.mk xl (secC r) [] sl none 0).arr _ rfl rfl Hx11.blk rfl cl_size (Cl.ones _) ?_
          refine hK.out _ _ (ints_cell (Hx3.blk.grown (setRow_only W6 b11 (Cl.mk xl (secC r) [] sl none 0).arr) (Hx3.unlike Hx11)) r hr6) (fun hHeld => ?_)
          clear hK K
          have HF := CliMid.of HS Hx11 hx hsl hr6
          (try simp only [List.getElem_toArray, List.getElem_cons_zero, List.getElem_cons_succ, Act.put, List.setIfInBounds_toArray, List.set_cons_zero, List.set_cons_succ])
          refine wpAnyH_done (by kernel_rfl) ?_ _
          go_wp2_with fail
          go_meet
          exact HF
      · go_simp
        have hx11 := HS.made 31 cCz
        replace Hx1 := Hx1.alloc (.cells cCz 31)
        replace HS := HS.alloc (.cells cCz 31)
        generalize W1.alloc (.cells cCz 31) = W2 at HS Hx1 hx11 ⊢
        generalize W1.heap.size = b11 at hx11 ⊢
        have Hx11 := hx11
        refine hK.out _ _ trivial (fun hHeld => ?_)
        clear hK K hx11
        (try simp only [List.getElem_toArray, List.getElem_cons_zero, List.getElem_cons_succ, Act.put, List.setIfInBounds_toArray, List.set_cons_zero, List.set_cons_succ])
        refine wpAnyH_ready (rs := [2, 3]) (by kernel_rfl) (by simp) ?_
        refine AllReadyH.cons rfl (fun K hK => ?_) ( AllReadyH.cons rfl (fun K hK => ?_) AllReadyH.nil)
        · go_simp
          refine (pick_walk zs g k _ 6 (b1 + 1) rowsC1 (by decide) (by decide) (by decide) W2 HS.tape (reads_blk (us := rowsC1.map Value.string) Hx1.blk) Hx1.lt Hx1.ne).mono ?_
          obtain ⟨xl, ex, hx⟩ := rowsC1_ok zs k
          rw [ex]
          rintro _ W3 ⟨rfl, ht, hg, -⟩
          generalize nextA zs k rowsC1.length = k at ht
          clear ex
          go_simp
          replace Hx1 := Hx1.call hg
          replace Hx11 := Hx11.call hg
          replace HS := HS.call ht hg
          refine hK.out _ _ trivial (fun hHeld => ?_)
          clear hK K ht hg
          (try simp only [List.getElem_toArray, List.getElem_cons_zero, List.getElem_cons_succ, Act.put, List.setIfInBounds_toArray, List.set_cons_zero, List.set_cons_succ])
          refine wpAnyH_ready (rs := [3, 5]) (by kernel_rfl) (by simp) ?_
          refine AllReadyH.cons rfl (fun K hK => ?_) ( AllReadyH.cons rfl (fun K hK => ?_) AllReadyH.nil)
          · go_simp
            have hx3 := HS.made 3 cCi
            replace Hx1 := Hx1.alloc (.cells cCi 3)
            replace Hx11 := Hx11.alloc (.cells cCi 3)
            replace HS := HS.alloc (.cells cCi 3)
            generalize W3.alloc (.cells cCi 3) = W4 at HS Hx1 Hx11 hx3 ⊢
            generalize W3.heap.size = b3 at hx3 ⊢
            have Hx3 := hx3
            refine hK.out _ _ trivial (fun hHeld => ?_)
            clear hK K hx3
            (try simp only [List.getElem_toArray, List.getElem_cons_zero, List.getElem_cons_succ, Act.put, List.setIfInBounds_toArray, List.set_cons_zero, List.set_cons_succ])
            refine wpAnyH_ready (rs := [5]) (by kernel_rfl) (by simp) ?_
            refine AllReadyH.cons rfl (fun K hK => ?_) AllReadyH.nil
            go_simp
            refine (next_walk zs g k 6 W4 HS.tape (by omega)).mono ?_
            obtain ⟨r, er, hr6⟩ := next6 zs k
            rw [er]
            rintro _ W5 ⟨rfl, ht, hg, -⟩
            generalize nextA zs k 6 = k at ht
            clear er
            go_simp
            replace Hx1 := Hx1.call hg
            replace Hx11 := Hx11.call hg
            replace Hx3 := Hx3.call hg
            replace HS := HS.call ht hg
            refine hK.out _ _ trivial (fun hHeld => ?_)
            clear hK K ht hg
            (try simp only [List.getElem_toArray, List.getElem_cons_zero, List.getElem_cons_succ, Act.put, List.setIfInBounds_toArray, List.set_cons_zero, List.set_cons_succ])
            have hrI : (r : Int) < 6 := by omega
            have hHeld := ints_cell Hx3.blk r hr6
            refine K9.wpAnyH_grow (S' := fun W => W.cell? ⟨b3, r, none⟩ = some (.int .i64 (secC r))) (fun _ _ => trivial) _ _ _ _ ?_
            refine wpAnyH_take (i := 6) (v := ?_) rfl (by kernel_rfl) (by kernel_rfl) (by kernel_rfl) (fun _ _ _ h => h) (Or.inl ⟨?_, ?_⟩) (by assumption) ?_; rotate_left; rfl; focus (intro w hSw; (try dsimp only at hSw); go_simp; all_goals (with_reducible rfl))
            (try simp only [List.getElem_toArray, List.getElem_cons_zero, List.getElem_cons_succ, Act.put, List.setIfInBounds_toArray, List.set_cons_zero, List.set_cons_succ])
            refine wpAnyH_take (i := 7) (v := ?_) rfl (by kernel_rfl) (by kernel_rfl) (by kernel_rfl) (fun _ _ _ h => h) (Or.inl ⟨?_, ?_⟩) (by assumption) ?_; rotate_left; rfl; focus (intro w hSw; (try dsimp only at hSw); go_simp; all_goals (with_reducible rfl))
            (try simp only [List.getElem_toArray, List.getElem_cons_zero, List.getElem_cons_succ, Act.put, List.setIfInBounds_toArray, List.set_cons_zero, List.set_cons_succ])
            refine wpAnyH_ready (rs := [9]) (by kernel_rfl) (by simp) ?_
            refine AllReadyH.cons rfl (fun K hK => ?_) AllReadyH.nil
            go_simp
            refine (S16.scope_walk zs g k W5 HS.tape).mono ?_
            rintro _ W6 ⟨s, k, hsl, rfl, ht, hg⟩
            go_simp
            replace Hx1 := Hx1.call hg
            replace Hx11 := Hx11.call hg
            replace Hx3 := Hx3.call hg
            replace HS := HS.call ht hg
            refine hK.out _ _ (ints_cell Hx3.blk r hr6) (fun hHeld => ?_)
            clear hK K ht hg
            (try simp only [List.getElem_toArray, List.getElem_cons_zero, List.getElem_cons_succ, Act.put, List.setIfInBounds_toArray, List.set_cons_zero, List.set_cons_succ])
            refine wpAnyH_take (i := 10) (v := ?_) rfl (by kernel_rfl) (by kernel_rfl) (by kernel_rfl) (fun _ _ _ h => h) (Or.inl ⟨?_, ?_⟩) (by assumption) ?_; rotate_left; rfl; focus (intro w hSw; (try dsimp only at hSw); go_simp; all_goals (with_reducible rfl))
            (try simp only [List.getElem_toArray, List.getElem_cons_zero, List.getElem_cons_succ, Act.put, List.setIfInBounds_toArray, List.set_cons_zero, List.set_cons_succ])
            refine wpAnyH_ready (rs := [12]) (by kernel_rfl) (by simp) ?_
            refine AllReadyH.cons rfl (fun K hK => ?_) AllReadyH.nil
            rw [if_pos (by rfl)]
            obtain ⟨sl, rfl⟩ := str_of s
            refine wp_store_blk 31 _ _ rfl b11 clZ.arr (Cl.mk xl (secC r) [] sl none 0).arr _ rfl rfl Hx11.blk rfl cl_size (Cl.ones _) ?_
            refine hK.out _ _ (ints_cell (Hx3.blk.grown (setRow_only W6 b11 (Cl.mk xl (secC r) [] sl none 0).arr) (Hx3.unlike Hx11)) r hr6) (fun hHeld => ?_)
            clear hK K
            have HF := CliMid.of HS Hx11 hx hsl hr6
            (try simp only [List.getElem_toArray, List.getElem_cons_zero, List.getElem_cons_succ, Act.put, List.setIfInBounds_toArray, List.set_cons_zero, List.set_cons_succ])
            refine wpAnyH_done (by kernel_rfl) ?_ _
            go_wp2_with fail
            go_meet
            exact HF
          · go_simp
            refine (next_walk zs g k 6 W3 HS.tape (by omega)).mono ?_
            obtain ⟨r, er, hr6⟩ := next6 zs k
            rw [er]
            rintro _ W4 ⟨rfl, ht, hg, -⟩
            generalize nextA zs k 6 = k at ht
            clear er
            go_simp
            replace Hx1 := Hx1.call hg
            replace Hx11 := Hx11.call hg
            replace HS := HS.call ht hg
            refine hK.out _ _ trivial (fun hHeld => ?_)
            clear hK K ht hg
            (try simp only [List.getElem_toArray, List.getElem_cons_zero, List.getElem_cons_succ, Act.put, List.setIfInBounds_toArray, List.set_cons_zero, List.set_cons_succ])
            refine wpAnyH_ready (rs := [3, 9]) (by kernel_rfl) (by simp) ?_
            refine AllReadyH.cons rfl (fun K hK => ?_) ( AllReadyH.cons rfl (fun K hK => ?_) AllReadyH.nil)
            · go_simp
              have hx3 := HS.made 3 cCi
              replace Hx1 := Hx1.alloc (.cells cCi 3)
              replace Hx11 := Hx11.alloc (.cells cCi 3)
              replace HS := HS.alloc (.cells cCi 3)
              generalize W4.alloc (.cells cCi 3) = W5 at HS Hx1 Hx11 hx3 ⊢
              generalize W4.heap.size = b3 at hx3 ⊢
              have Hx3 := hx3
              refine hK.out _ _ trivial (fun hHeld => ?_)
              clear hK K hx3
              (try simp only [List.getElem_toArray, List.getElem_cons_zero, List.getElem_cons_succ, Act.put, List.setIfInBounds_toArray, List.set_cons_zero, List.set_cons_succ])
              have hrI : (r : Int) < 6 := by omega
              have hHeld := ints_cell Hx3.blk r hr6
              refine K9.wpAnyH_grow (S' := fun W => W.cell? ⟨b3, r, none⟩ = some (.int .i64 (secC r))) (fun _ _ => trivial) _ _ _ _ ?_
              refine wpAnyH_take (i := 6) (v := ?_) rfl (by kernel_rfl) (by kernel_rfl) (by kernel_rfl) (fun _ _ _ h => h) (Or.inl ⟨?_, ?_⟩) (by assumption) ?_; rotate_left; rfl; focus (intro w hSw; (try dsimp only at hSw); go_simp; all_goals (with_reducible rfl))
              (try simp only [List.getElem_toArray, List.getElem_cons_zero, List.getElem_cons_succ, Act.put, List.setIfInBounds_toArray, List.set_cons_zero, List.set_cons_succ])
              refine wpAnyH_take (i := 7) (v := ?_) rfl (by kernel_rfl) (by kernel_rfl) (by kernel_rfl) (fun _ _ _ h => h) (Or.inl ⟨?_, ?_⟩) (by assumption) ?_; rotate_left; rfl; focus (intro w hSw; (try dsimp only at hSw); go_simp; all_goals (with_reducible rfl))
              (try simp only [List.getElem_toArray, List.getElem_cons_zero, List.getElem_cons_succ, Act.put, List.setIfInBounds_toArray, List.set_cons_zero, List.set_cons_succ])
              refine wpAnyH_ready (rs := [9]) (by kernel_rfl) (by simp) ?_
              refine AllReadyH.cons rfl (fun K hK => ?_) AllReadyH.nil
              go_simp
              refine (S16.scope_walk zs g k W5 HS.tape).mono ?_
              rintro _ W6 ⟨s, k, hsl, rfl, ht, hg⟩
              go_simp
              replace Hx1 := Hx1.call hg
              replace Hx11 := Hx11.call hg
              replace Hx3 := Hx3.call hg
              replace HS := HS.call ht hg
              refine hK.out _ _ (ints_cell Hx3.blk r hr6) (fun hHeld => ?_)
              clear hK K ht hg
              (try simp only [List.getElem_toArray, List.getElem_cons_zero, List.getElem_cons_succ, Act.put, List.setIfInBounds_toArray, List.set_cons_zero, List.set_cons_succ])
              refine wpAnyH_take (i := 10) (v := ?_) rfl (by kernel_rfl) (by kernel_rfl) (by kernel_rfl) (fun _ _ _ h => h) (Or.inl ⟨?_, ?_⟩) (by assumption) ?_; rotate_left; rfl; focus (intro w hSw; (try dsimp only at hSw); go_simp; all_goals (with_reducible rfl))
              (try simp only [List.getElem_toArray, List.getElem_cons_zero, List.getElem_cons_succ, Act.put, List.setIfInBounds_toArray, List.set_cons_zero, List.set_cons_succ])
              refine wpAnyH_ready (rs := [12]) (by kernel_rfl) (by simp) ?_
              refine AllReadyH.cons rfl (fun K hK => ?_) AllReadyH.nil
              rw [if_pos (by rfl)]
              obtain ⟨sl, rfl⟩ := str_of s
              refine wp_store_blk 31 _ _ rfl b11 clZ.arr (Cl.mk xl (secC r) [] sl none 0).arr _ rfl rfl Hx11.blk rfl cl_size (Cl.ones _) ?_
              refine hK.out _ _ (ints_cell (Hx3.blk.grown (setRow_only W6 b11 (Cl.mk xl (secC r) [] sl none 0).arr) (Hx3.unlike Hx11)) r hr6) (fun hHeld => ?_)
              clear hK K
              have HF := CliMid.of HS Hx11 hx hsl hr6
              (try simp only [List.getElem_toArray, List.getElem_cons_zero, List.getElem_cons_succ, Act.put, List.setIfInBounds_toArray, List.set_cons_zero, List.set_cons_succ])
              refine wpAnyH_done (by kernel_rfl) ?_ _
              go_wp2_with fail
              go_meet
              exact HF
            · go_simp
              refine (S16.scope_walk zs g k W4 HS.tape).mono ?_
              rintro _ W5 ⟨s, k, hsl, rfl, ht, hg⟩
              go_simp
              replace Hx1 := Hx1.call hg
              replace Hx11 := Hx11.call hg
              replace HS := HS.call ht hg
              refine hK.out _ _ trivial (fun hHeld => ?_)
              clear hK K ht hg
              (try simp only [List.getElem_toArray, List.getElem_cons_zero, List.getElem_cons_succ, Act.put, List.setIfInBounds_toArray, List.set_cons_zero, List.set_cons_succ])
              refine wpAnyH_ready (rs := [3]) (by kernel_rfl) (by simp) ?_
              refine AllReadyH.cons rfl (fun K hK => ?_) AllReadyH.nil
              go_simp
              have hx3 := HS.made 3 cCi
              replace Hx1 := Hx1.alloc (.cells cCi 3)
              replace Hx11 := Hx11.alloc (.cells cCi 3)
              replace HS := HS.alloc (.cells cCi 3)
              generalize W5.alloc (.cells cCi 3) = W6 at HS Hx1 Hx11 hx3 ⊢
              generalize W5.heap.size = b3 at hx3 ⊢
              have Hx3 := hx3
              refine hK.out _ _ trivial (fun hHeld => ?_)
              clear hK K hx3
              (try simp only [List.getElem_toArray, List.getElem_cons_zero, List.getElem_cons_succ, Act.put, List.setIfInBounds_toArray, List.set_cons_zero, List.set_cons_succ])
              have hrI : (r : Int) < 6 := by omega
              have hHeld := ints_cell Hx3.blk r hr6
              refine K9.wpAnyH_grow (S' := fun W => W.cell? ⟨b3, r, none⟩ = some (.int .i64 (secC r))) (fun _ _ => trivial) _ _ _ _ ?_
              refine wpAnyH_take (i := 6) (v := ?_) rfl (by kernel_rfl) (by kernel_rfl) (by kernel_rfl) (fun _ _ _ h => h) (Or.inl ⟨?_, ?_⟩) (by assumption) ?_; rotate_left; rfl; focus (intro w hSw; (try dsimp only at hSw); go_simp; all_goals (with_reducible rfl))
              (try simp only [List.getElem_toArray, List.getElem_cons_zero, List.getElem_cons_succ, Act.put, List.setIfInBounds_toArray, List.set_cons_zero, List.set_cons_succ])
              refine wpAnyH_take (i := 7) (v := ?_) rfl (by kernel_rfl) (by kernel_rfl) (by kernel_rfl) (fun _ _ _ h => h) (Or.inl ⟨?_, ?_⟩) (by assumption) ?_; rotate_left; rfl; focus (intro w hSw; (try dsimp only at hSw); go_simp; all_goals (with_reducible rfl))
              (try simp only [List.getElem_toArray, List.getElem_cons_zero, List.getElem_cons_succ, Act.put, List.setIfInBounds_toArray, List.set_cons_zero, List.set_cons_succ])
              refine wpAnyH_take (i := 10) (v := ?_) rfl (by kernel_rfl) (by kernel_rfl) (by kernel_rfl) (fun _ _ _ h => h) (Or.inl ⟨?_, ?_⟩) (by assumption) ?_; rotate_left; rfl; focus (intro w hSw; (try dsimp only at hSw); go_simp; all_goals (with_reducible rfl))
              (try simp only [List.getElem_toArray, List.getElem_cons_zero, List.getElem_cons_succ, Act.put, List.setIfInBounds_toArray, List.set_cons_zero, List.set_cons_succ])
              refine wpAnyH_ready (rs := [12]) (by kernel_rfl) (by simp) ?_
              refine AllReadyH.cons rfl (fun K hK => ?_) AllReadyH.nil
              rw [if_pos (by rfl)]
              obtain ⟨sl, rfl⟩ := str_of s
              refine wp_store_blk 31 _ _ rfl b11 clZ.arr (Cl.mk xl (secC r) [] sl none 0).arr _ rfl rfl Hx11.blk rfl cl_size (Cl.ones _) ?_
              refine hK.out _ _ (ints_cell (Hx3.blk.grown (setRow_only W6 b11 (Cl.mk xl (secC r) [] sl none 0).arr) (Hx3.unlike Hx11)) r hr6) (fun hHeld => ?_)
              clear hK K
              have HF := CliMid.of HS Hx11 hx hsl hr6
              (try simp only [List.getElem_toArray, List.getElem_cons_zero, List.getElem_cons_succ, Act.put, List.setIfInBounds_toArray, List.set_cons_zero, List.set_cons_succ])
              refine wpAnyH_done (by kernel_rfl) ?_ _
              go_wp2_with fail
              go_meet
              exact HF
        · go_simp
          have hx3 := HS.made 3 cCi
          replace Hx1 := Hx1.alloc (.cells cCi 3)
          replace Hx11 := Hx11.alloc (.cells cCi 3)
          replace HS := HS.alloc (.cells cCi 3)
          generalize W2.alloc (.cells cCi 3) = W3 at HS Hx1 Hx11 hx3 ⊢
          generalize W2.heap.size = b3 at hx3 ⊢
          have Hx3 := hx3
          refine hK.out _ _ trivial (fun hHeld => ?_)
          clear hK K hx3
          (try simp only [List.getElem_toArray, List.getElem_cons_zero, List.getElem_cons_succ, Act.put, List.setIfInBounds_toArray, List.set_cons_zero, List.set_cons_succ])
          refine wpAnyH_ready (rs := [2]) (by kernel_rfl) (by simp) ?_
          refine AllReadyH.cons rfl (fun K hK => ?_) AllReadyH.nil
          go_simp
          refine (pick_walk zs g k _ 6 (b1 + 1) rowsC1 (by decide) (by decide) (by decide) W3 HS.tape (reads_blk (us := rowsC1.map Value.string) Hx1.blk) Hx1.lt Hx1.ne).mono ?_
          obtain ⟨xl, ex, hx⟩ := rowsC1_ok zs k
          rw [ex]
          rintro _ W4 ⟨rfl, ht, hg, -⟩
          generalize nextA zs k rowsC1.length = k at ht
          clear ex
          go_simp
          replace Hx1 := Hx1.call hg
          replace Hx11 := Hx11.call hg
          replace Hx3 := Hx3.call hg
          replace HS := HS.call ht hg
          refine hK.out _ _ trivial (fun hHeld => ?_)
          clear hK K ht hg
          (try simp only [List.getElem_toArray, List.getElem_cons_zero, List.getElem_cons_succ, Act.put, List.setIfInBounds_toArray, List.set_cons_zero, List.set_cons_succ])
          refine wpAnyH_ready (rs := [5]) (by kernel_rfl) (by simp) ?_
          refine AllReadyH.cons rfl (fun K hK => ?_) AllReadyH.nil
          go_simp
          refine (next_walk zs g k 6 W4 HS.tape (by omega)).mono ?_
          obtain ⟨r, er, hr6⟩ := next6 zs k
          rw [er]
          rintro _ W5 ⟨rfl, ht, hg, -⟩
          generalize nextA zs k 6 = k at ht
          clear er
          go_simp
          replace Hx1 := Hx1.call hg
          replace Hx11 := Hx11.call hg
          replace Hx3 := Hx3.call hg
          replace HS := HS.call ht hg
          refine hK.out _ _ trivial (fun hHeld => ?_)
          clear hK K ht hg
          (try simp only [List.getElem_toArray, List.getElem_cons_zero, List.getElem_cons_succ, Act.put, List.setIfInBounds_toArray, List.set_cons_zero, List.set_cons_succ])
          have hrI : (r : Int) < 6 := by omega
          have hHeld := ints_cell Hx3.blk r hr6
          refine K9.wpAnyH_grow (S' := fun W => W.cell? ⟨b3, r, none⟩ = some (.int .i64 (secC r))) (fun _ _ => trivial) _ _ _ _ ?_
          refine wpAnyH_take (i := 6) (v := ?_) rfl (by kernel_rfl) (by kernel_rfl) (by kernel_rfl) (fun _ _ _ h => h) (Or.inl ⟨?_, ?_⟩) (by assumption) ?_; rotate_left; rfl; focus (intro w hSw; (try dsimp only at hSw); go_simp; all_goals (with_reducible rfl))
          (try simp only [List.getElem_toArray, List.getElem_cons_zero, List.getElem_cons_succ, Act.put, List.setIfInBounds_toArray, List.set_cons_zero, List.set_cons_succ])
          refine wpAnyH_take (i := 7) (v := ?_) rfl (by kernel_rfl) (by kernel_rfl) (by kernel_rfl) (fun _ _ _ h => h) (Or.inl ⟨?_, ?_⟩) (by assumption) ?_; rotate_left; rfl; focus (intro w hSw; (try dsimp only at hSw); go_simp; all_goals (with_reducible rfl))
          (try simp only [List.getElem_toArray, List.getElem_cons_zero, List.getElem_cons_succ, Act.put, List.setIfInBounds_toArray, List.set_cons_zero, List.set_cons_succ])
          refine wpAnyH_ready (rs := [9]) (by kernel_rfl) (by simp) ?_
          refine AllReadyH.cons rfl (fun K hK => ?_) AllReadyH.nil
          go_simp
          refine (S16.scope_walk zs g k W5 HS.tape).mono ?_
          rintro _ W6 ⟨s, k, hsl, rfl, ht, hg⟩
          go_simp
          replace Hx1 := Hx1.call hg
          replace Hx11 := Hx11.call hg
          replace Hx3 := Hx3.call hg
          replace HS := HS.call ht hg
          refine hK.out _ _ (ints_cell Hx3.blk r hr6) (fun hHeld => ?_)
          clear hK K ht hg
          (try simp only [List.getElem_toArray, List.getElem_cons_zero, List.getElem_cons_succ, Act.put, List.setIfInBounds_toArray, List.set_cons_zero, List.set_cons_succ])
          refine wpAnyH_take (i := 10) (v := ?_) rfl (by kernel_rfl) (by kernel_rfl) (by kernel_rfl) (fun _ _ _ h => h) (Or.inl ⟨?_, ?_⟩) (by assumption) ?_; rotate_left; rfl; focus (intro w hSw; (try dsimp only at hSw); go_simp; all_goals (with_reducible rfl))
          (try simp only [List.getElem_toArray, List.getElem_cons_zero, List.getElem_cons_succ, Act.put, List.setIfInBounds_toArray, List.set_cons_zero, List.set_cons_succ])
          refine wpAnyH_ready (rs := [12]) (by kernel_rfl) (by simp) ?_
          refine AllReadyH.cons rfl (fun K hK => ?_) AllReadyH.nil
          rw [if_pos (by rfl)]
          obtain ⟨sl, rfl⟩ := str_of s
          refine wp_store_blk 31 _ _ rfl b11 clZ.arr (Cl.mk xl (secC r) [] sl none 0).arr _ rfl rfl Hx11.blk rfl cl_size (Cl.ones _) ?_
          refine hK.out _ _ (ints_cell (Hx3.blk.grown (setRow_only W6 b11 (Cl.mk xl (secC r) [] sl none 0).arr) (Hx3.unlike Hx11)) r hr6) (fun hHeld => ?_)
          clear hK K
          have HF := CliMid.of HS Hx11 hx hsl hr6
          (try simp only [List.getElem_toArray, List.getElem_cons_zero, List.getElem_cons_succ, Act.put, List.setIfInBounds_toArray, List.set_cons_zero, List.set_cons_succ])
          refine wpAnyH_done (by kernel_rfl) ?_ _
          go_wp2_with fail
          go_meet
          exact HF
    · go_simp
      have hx3 := HS.made 3 cCi
      replace HS := HS.alloc (.cells cCi 3)
      generalize W0.alloc (.cells cCi 3) = W1 at HS hx3 ⊢
      generalize W0.heap.size = b3 at hx3 ⊢
      have Hx3 := hx3
      refine hK.out _ _ trivial (fun hHeld => ?_)
      clear hK K hx3
      (try simp only [List.getElem_toArray, List.getElem_cons_zero, List.getElem_cons_succ, Act.put, List.setIfInBounds_toArray, List.set_cons_zero, List.set_cons_succ])
      refine wpAnyH_ready (rs := [1, 11]) (by kernel_rfl) (by simp) ?_
      refine AllReadyH.cons rfl (fun K hK => ?_) ( AllReadyH.cons rfl (fun K hK => ?_) AllReadyH.nil)
      · go_simp
        have hx1 := HS.made 9 cC1
        replace Hx3 := Hx3.alloc (.cells cC1 9)
        replace HS := HS.alloc (.cells cC1 9)
        generalize W1.alloc (.cells cC1 9) = W2 at HS Hx3 hx1 ⊢
        generalize W1.heap.size = b1 at hx1 ⊢
        have Hx1 := hx1
        refine hK.out _ _ trivial (fun hHeld => ?_)
        clear hK K hx1
        (try simp only [List.getElem_toArray, List.getElem_cons_zero, List.getElem_cons_succ, Act.put, List.setIfInBounds_toArray, List.set_cons_zero, List.set_cons_succ])
        refine wpAnyH_ready (rs := [2, 11]) (by kernel_rfl) (by simp) ?_
        refine AllReadyH.cons rfl (fun K hK => ?_) ( AllReadyH.cons rfl (fun K hK => ?_) AllReadyH.nil)
        · go_simp
          refine (pick_walk zs g k _ 6 (b1 + 1) rowsC1 (by decide) (by decide) (by decide) W2 HS.tape (reads_blk (us := rowsC1.map Value.string) Hx1.blk) Hx1.lt Hx1.ne).mono ?_
          obtain ⟨xl, ex, hx⟩ := rowsC1_ok zs k
          rw [ex]
          rintro _ W3 ⟨rfl, ht, hg, -⟩
          generalize nextA zs k rowsC1.length = k at ht
          clear ex
          go_simp
          replace Hx3 := Hx3.call hg
          replace Hx1 := Hx1.call hg
          replace HS := HS.call ht hg
          refine hK.out _ _ trivial (fun hHeld => ?_)
          clear hK K ht hg
          (try simp only [List.getElem_toArray, List.getElem_cons_zero, List.getElem_cons_succ, Act.put, List.setIfInBounds_toArray, List.set_cons_zero, List.set_cons_succ])
          refine wpAnyH_ready (rs := [5, 11]) (by kernel_rfl) (by simp) ?_
          refine AllReadyH.cons rfl (fun K hK => ?_) ( AllReadyH.cons rfl (fun K hK => ?_) AllReadyH.nil)
          · go_simp
            refine (next_walk zs g k 6 W3 HS.tape (by omega)).mono ?_
            obtain ⟨r, er, hr6⟩ := next6 zs k
            rw [er]
            rintro _ W4 ⟨rfl, ht, hg, -⟩
            generalize nextA zs k 6 = k at ht
            clear er
            go_simp
            replace Hx3 := Hx3.call hg
            replace Hx1 := Hx1.call hg
            replace HS := HS.call ht hg
            refine hK.out _ _ trivial (fun hHeld => ?_)
            clear hK K ht hg
            (try simp only [List.getElem_toArray, List.getElem_cons_zero, List.getElem_cons_succ, Act.put, List.setIfInBounds_toArray, List.set_cons_zero, List.set_cons_succ])
            have hrI : (r : Int) < 6 := by omega
            have hHeld := ints_cell Hx3.blk r hr6
            refine K9.wpAnyH_grow (S' := fun W => W.cell? ⟨b3, r, none⟩ = some (.int .i64 (secC r))) (fun _ _ => trivial) _ _ _ _ ?_
            refine wpAnyH_take (i := 6) (v := ?_) rfl (by kernel_rfl) (by kernel_rfl) (by kernel_rfl) (fun _ _ _ h => h) (Or.inl ⟨?_, ?_⟩) (by assumption) ?_; rotate_left; rfl; focus (intro w hSw; (try dsimp only at hSw); go_simp; all_goals (with_reducible rfl))
            (try simp only [List.getElem_toArray, List.getElem_cons_zero, List.getElem_cons_succ, Act.put, List.setIfInBounds_toArray, List.set_cons_zero, List.set_cons_succ])
            refine wpAnyH_take (i := 7) (v := ?_) rfl (by kernel_rfl) (by kernel_rfl) (by kernel_rfl) (fun _ _ _ h => h) (Or.inl ⟨?_, ?_⟩) (by assumption) ?_; rotate_left; rfl; focus (intro w hSw; (try dsimp only at hSw); go_simp; all_goals (with_reducible rfl))
            (try simp only [List.getElem_toArray, List.getElem_cons_zero, List.getElem_cons_succ, Act.put, List.setIfInBounds_toArray, List.set_cons_zero, List.set_cons_succ])
            refine wpAnyH_ready (rs := [9, 11]) (by kernel_rfl) (by simp) ?_
            refine AllReadyH.cons rfl (fun K hK => ?_) ( AllReadyH.cons rfl (fun K hK => ?_) AllReadyH.nil)
            · go_simp
              refine (S16.scope_walk zs g k W4 HS.tape).mono ?_
              rintro _ W5 ⟨s, k, hsl, rfl, ht, hg⟩
              go_simp
              replace Hx3 := Hx3.call hg
              replace Hx1 := Hx1.call hg
              replace HS := HS.call ht hg
              refine hK.out _ _ (ints_cell Hx3.blk r hr6) (fun hHeld => ?_)
              clear hK K ht hg
              (try simp only [List.getElem_toArray, List.getElem_cons_zero, List.getElem_cons_succ, Act.put, List.setIfInBounds_toArray, List.set_cons_zero, List.set_cons_succ])
              refine wpAnyH_take (i := 10) (v := ?_) rfl (by kernel_rfl) (by kernel_rfl) (by kernel_rfl) (fun _ _ _ h => h) (Or.inl ⟨?_, ?_⟩) (by assumption) ?_; rotate_left; rfl; focus (intro w hSw; (try dsimp only at hSw); go_simp; all_goals (with_reducible rfl))
              (try simp only [List.getElem_toArray, List.getElem_cons_zero, List.getElem_cons_succ, Act.put, List.setIfInBounds_toArray, List.set_cons_zero, List.set_cons_succ])
              refine wpAnyH_ready (rs := [11]) (by kernel_rfl) (by simp) ?_
              refine AllReadyH.cons rfl (fun K hK => ?_) AllReadyH.nil
              go_simp
              have hx11 := HS.made 31 cCz
              replace Hx3 := Hx3.alloc (.cells cCz 31)
              replace Hx1 := Hx1.alloc (.cells cCz 31)
              replace HS := HS.alloc (.cells cCz 31)
              generalize W5.alloc (.cells cCz 31) = W6 at HS Hx3 Hx1 hx11 ⊢
              generalize W5.heap.size = b11 at hx11 ⊢
              have Hx11 := hx11
              refine hK.out _ _ (ints_cell Hx3.blk r hr6) (fun hHeld => ?_)
              clear hK K hx11
              (try simp only [List.getElem_toArray, List.getElem_cons_zero, List.getElem_cons_succ, Act.put, List.setIfInBounds_toArray, List.set_cons_zero, List.set_cons_succ])
              refine wpAnyH_ready (rs := [12]) (by kernel_rfl) (by simp) ?_
              refine AllReadyH.cons rfl (fun K hK => ?_) AllReadyH.nil
              rw [if_pos (by rfl)]
              obtain ⟨sl, rfl⟩ := str_of s
              refine wp_store_blk 31 _ _ rfl b11 clZ.arr (Cl.mk xl (secC r) [] sl none 0).arr _ rfl rfl Hx11.blk rfl cl_size (Cl.ones _) ?_
              refine hK.out _ _ (ints_cell (Hx3.blk.grown (setRow_only W6 b11 (Cl.mk xl (secC r) [] sl none 0).arr) (Hx3.unlike Hx11)) r hr6) (fun hHeld => ?_)
              clear hK K
              have HF := CliMid.of HS Hx11 hx hsl hr6
              (try simp only [List.getElem_toArray, List.getElem_cons_zero, List.getElem_cons_succ, Act.put, List.setIfInBounds_toArray, List.set_cons_zero, List.set_cons_succ])
              refine wpAnyH_done (by kernel_rfl) ?_ _
              go_wp2_with fail
              go_meet
              exact HF
            · go_simp
              have hx11 := HS.made 31 cCz
              replace Hx3 := Hx3.alloc (.cells cCz 31)
              replace Hx1 := Hx1.alloc (.cells cCz 31)
              replace HS := HS.alloc (.cells cCz 31)
              generalize W4.alloc (.cells cCz 31) = W5 at HS Hx3 Hx1 hx11 ⊢
              generalize W4.heap.size = b11 at hx11 ⊢
              have Hx11 := hx11
              refine hK.out _ _ (ints_cell Hx3.blk r hr6) (fun hHeld => ?_)
              clear hK K hx11
              (try simp only [List.getElem_toArray, List.getElem_cons_zero, List.getElem_cons_succ, Act.put, List.setIfInBounds_toArray, List.set_cons_zero, List.set_cons_succ])
              refine wpAnyH_ready (rs := [9]) (by kernel_rfl) (by simp) ?_
              refine AllReadyH.cons rfl (fun K hK => ?_) AllReadyH.nil
              go_simp
              refine (S16.scope_walk zs g k W5 HS.tape).mono ?_
              rintro _ W6 ⟨s, k, hsl, rfl, ht, hg⟩
              go_simp
              replace Hx3 := Hx3.call hg
              replace Hx1 := Hx1.call hg
              replace Hx11 := Hx11.call hg
              replace HS := HS.call ht hg
              refine hK.out _ _ (ints_cell Hx3.blk r hr6) (fun hHeld => ?_)
              clear hK K ht hg
              (try simp only [List.getElem_toArray, List.getElem_cons_zero, List.getElem_cons_succ, Act.put, List.setIfInBounds_toArray, List.set_cons_zero, List.set_cons_succ])
              refine wpAnyH_take (i := 10) (v := ?_) rfl (by kernel_rfl) (by kernel_rfl) (by kernel_rfl) (fun _ _ _ h => h) (Or.inl ⟨?_, ?_⟩) (by assumption) ?_; rotate_left; rfl; focus (intro w hSw; (try dsimp only at hSw); go_simp; all_goals (with_reducible rfl))
              (try simp only [List.getElem_toArray, List.getElem_cons_zero, List.getElem_cons_succ, Act.put, List.setIfInBounds_toArray, List.set_cons_zero, List.set_cons_succ])
              refine wpAnyH_ready (rs := [12]) (by kernel_rfl) (by simp) ?_
              refine AllReadyH.cons rfl (fun K hK => ?_) AllReadyH.nil
              rw [if_pos (by rfl)]
              obtain ⟨sl, rfl⟩ := str_of s
              refine wp_store_blk 31 _ _ rfl b11 clZ.arr (Cl.mk xl (secC r) [] sl none 0).arr _ rfl rfl Hx11.blk rfl cl_size (Cl.ones _) ?_
              refine hK.out _ _ (ints_cell (Hx3.blk.grown (setRow_only W6 b11 (Cl.mk xl (secC r) [] sl none 0).arr) (Hx3.unlike Hx11)) r hr6) (fun hHeld => ?_)
              clear hK K
              have HF := CliMid.of HS Hx11 hx hsl hr6
              (try simp only [List.getElem_toArray, List.getElem_cons_zero, List.getElem_cons_succ, Act.put, List.setIfInBounds_toArray, List.set_cons_zero, List.set_cons_succ])
              refine wpAnyH_done (by kernel_rfl) ?_ _
              go_wp2_with fail
              go_meet
              exact HF
          · go_simp
            have hx11 := HS.made 31 cCz
            replace Hx3 := Hx3.alloc (.cells cCz 31)
            replace Hx1 := Hx1.alloc (.cells cCz 31)
            replace HS := HS.alloc (.cells cCz 31)
            generalize W3.alloc (.cells cCz 31) = W4 at HS Hx3 Hx1 hx11 ⊢
            generalize W3.heap.size = b11 at hx11 ⊢
            have Hx11 := hx11
            refine hK.out _ _ trivial (fun hHeld => ?_)
            clear hK K hx11
            (try simp only [List.getElem_toArray, List.getElem_cons_zero, List.getElem_cons_succ, Act.put, List.setIfInBounds_toArray, List.set_cons_zero, List.set_cons_succ])
            refine wpAnyH_ready (rs := [5]) (by kernel_rfl) (by simp) ?_
            refine AllReadyH.cons rfl (fun K hK => ?_) AllReadyH.nil
            go_simp
            refine (next_walk zs g k 6 W4 HS.tape (by omega)).mono ?_
            obtain ⟨r, er, hr6⟩ := next6 zs k
            rw [er]
            rintro _ W5 ⟨rfl, ht, hg, -⟩
            generalize nextA zs k 6 = k at ht
            clear er
            go_simp
            replace Hx3 := Hx3.call hg
            replace Hx1 := Hx1.call hg
            replace Hx11 := Hx11.call hg
            replace HS := HS.call ht hg
            refine hK.out _ _ trivial (fun hHeld => ?_)
            clear hK K ht hg
            (try simp only [List.getElem_toArray, List.getElem_cons_zero, List.getElem_cons_succ, Act.put, List.setIfInBounds_toArray, List.set_cons_zero, List.set_cons_succ])
            have hrI : (r : Int) < 6 := by omega
            have hHeld := ints_cell Hx3.blk r hr6
            refine K9.wpAnyH_grow (S' := fun W => W.cell? ⟨b3, r, none⟩ = some (.int .i64 (secC r))) (fun _ _ => trivial) _ _ _ _ ?_
            refine wpAnyH_take (i := 6) (v := ?_) rfl (by kernel_rfl) (by kernel_rfl) (by kernel_rfl) (fun _ _ _ h => h) (Or.inl ⟨?_, ?_⟩) (by assumption) ?_; rotate_left; rfl; focus (intro w hSw; (try dsimp only at hSw); go_simp; all_goals (with_reducible rfl))
            (try simp only [List.getElem_toArray, List.getElem_cons_zero, List.getElem_cons_succ, Act.put, List.setIfInBounds_toArray, List.set_cons_zero, List.set_cons_succ])
            refine wpAnyH_take (i := 7) (v := ?_) rfl (by kernel_rfl) (by kernel_rfl) (by kernel_rfl) (fun _ _ _ h => h) (Or.inl ⟨?_, ?_⟩) (by assumption) ?_; rotate_left; rfl; focus (intro w hSw; (try dsimp only at hSw); go_simp; all_goals (with_reducible rfl))
            (try simp only [List.getElem_toArray, List.getElem_cons_zero, List.getElem_cons_succ, Act.put, List.setIfInBounds_toArray, List.set_cons_zero, List.set_cons_succ])
            refine wpAnyH_ready (rs := [9]) (by kernel_rfl) (by simp) ?_
            refine AllReadyH.cons rfl (fun K hK => ?_) AllReadyH.nil
            go_simp
            refine (S16.scope_walk zs g k W5 HS.tape).mono ?_
            rintro _ W6 ⟨s, k, hsl, rfl, ht, hg⟩
            go_simp
            replace Hx3 := Hx3.call hg
            replace Hx1 := Hx1.call hg
            replace Hx11 := Hx11.call hg
            replace HS := HS.call ht hg
            refine hK.out _ _ (ints_cell Hx3.blk r hr6) (fun hHeld => ?_)
            clear hK K ht hg
            (try simp only [List.getElem_toArray, List.getElem_cons_zero, List.getElem_cons_succ, Act.put, List.setIfInBounds_toArray, List.set_cons_zero, List.set_cons_succ])
            refine wpAnyH_take (i := 10) (v := ?_) rfl (by kernel_rfl) (by kernel_rfl) (by kernel_rfl) (fun _ _ _ h => h) (Or.inl ⟨?_, ?_⟩) (by assumption) ?_; rotate_left; rfl; focus (intro w hSw; (try dsimp only at hSw); go_simp; all_goals (with_reducible rfl))
            (try simp only [List.getElem_toArray, List.getElem_cons_zero, List.getElem_cons_succ, Act.put, List.setIfInBounds_toArray, List.set_cons_zero, List.set_cons_succ])
            refine wpAnyH_ready (rs := [12]) (by kernel_rfl) (by simp) ?_
            refine AllReadyH.cons rfl (fun K hK => ?_) AllReadyH.nil
            rw [if_pos (by rfl)]
            obtain ⟨sl, rfl⟩ := str_of s
            refine wp_store_blk 31 _ _ rfl b11 clZ.arr (Cl.mk xl (secC r) [] sl none 0).arr _ rfl rfl Hx11.blk rfl cl_size (Cl.ones _) ?_
            refine hK.out _ _ (ints_cell (Hx3.blk.grown (setRow_only W6 b11 (Cl.mk xl (secC r) [] sl none 0).arr) (Hx3.unlike Hx11)) r hr6) (fun hHeld => ?_)
            clear hK K
            have HF := CliMid.of HS Hx11 hx hsl hr6
            (try simp only [List.getElem_toArray, List.getElem_cons_zero, List.getElem_cons_succ, Act.put, List.setIfInBounds_toArray, List.set_cons_zero, List.set_cons_succ])
            refine wpAnyH_done (by kernel_rfl) ?_ _
            go_wp2_with fail
            go_meet
            exact HF
        · go_simp
          have hx11 := HS.made 31 cCz
          replace Hx3 := Hx3.alloc (.cells cCz 31)
          replace Hx1 := Hx1.alloc (.cells cCz 31)
          replace HS := HS.alloc (.cells cCz 31)
          generalize W2.alloc (.cells cCz 31) = W3 at HS Hx3 Hx1 hx11 ⊢
          generalize W2.heap.size = b11 at hx11 ⊢
          have Hx11 := hx11
          refine hK.out _ _ trivial (fun hHeld => ?_)
          clear hK K hx11
          (try simp only [List.getElem_toArray, List.getElem_cons_zero, List.getElem_cons_succ, Act.put, List.setIfInBounds_toArray, List.set_cons_zero, List.set_cons_succ])
          refine wpAnyH_ready (rs := [2]) (by kernel_rfl) (by simp) ?_
          refine AllReadyH.cons rfl (fun K hK => ?_) AllReadyH.nil
          go_simp
          refine (pick_walk zs g k _ 6 (b1 + 1) rowsC1 (by decide) (by decide) (by decide) W3 HS.tape (reads_blk (us := rowsC1.map Value.string) Hx1.blk) Hx1.lt Hx1.ne).mono ?_
          obtain ⟨xl, ex, hx⟩ := rowsC1_ok zs k
          rw [ex]
          rintro _ W4 ⟨rfl, ht, hg, -⟩
          generalize nextA zs k rowsC1.length = k at ht
          clear ex
          go_simp
          replace Hx3 := Hx3.call hg
          replace Hx1 := Hx1.call hg
          replace Hx11 := Hx11.call hg
          replace HS := HS.call ht hg
          refine hK.out _ _ trivial (fun hHeld => ?_)
          clear hK K ht hg
          (try simp only [List.getElem_toArray, List.getElem_cons_zero, List.getElem_cons_succ, Act.put, List.setIfInBounds_toArray, List.set_cons_zero, List.set_cons_succ])
          refine wpAnyH_ready (rs := [5]) (by kernel_rfl) (by simp) ?_
          refine AllReadyH.cons rfl (fun K hK => ?_) AllReadyH.nil
          go_simp
          refine (next_walk zs g k 6 W4 HS.tape (by omega)).mono ?_
          obtain ⟨r, er, hr6⟩ := next6 zs k
          rw [er]
          rintro _ W5 ⟨rfl, ht, hg, -⟩
          generalize nextA zs k 6 = k at ht
          clear er
          go_simp
          replace Hx3 := Hx3.call hg
          replace Hx1 := Hx1.call hg
          replace Hx11 := Hx11.call hg
          replace HS := HS.call ht hg
          refine hK.out _ _ trivial (fun hHeld => ?_)
          clear hK K ht hg
          (try simp only [List.getElem_toArray, List.getElem_cons_zero, List.getElem_cons_succ, Act.put, List.setIfInBounds_toArray, List.set_cons_zero, List.set_cons_succ])
          have hrI : (r : Int) < 6 := by omega
          have hHeld := ints_cell Hx3.blk r hr6
          refine K9.wpAnyH_grow (S' := fun W => W.cell? ⟨b3, r, none⟩ = some (.int .i64 (secC r))) (fun _ _ => trivial) _ _ _ _ ?_
          refine wpAnyH_take (i := 6) (v := ?_) rfl (by kernel_rfl) (by kernel_rfl) (by kernel_rfl) (fun _ _ _ h => h) (Or.inl ⟨?_, ?_⟩) (by assumption) ?_; rotate_left; rfl; focus (intro w hSw; (try dsimp only at hSw); go_simp; all_goals (with_reducible rfl))
          (try simp only [List.getElem_toArray, List.getElem_cons_zero, List.getElem_cons_succ, Act.put, List.setIfInBounds_toArray, List.set_cons_zero, List.set_cons_succ])
          refine wpAnyH_take (i := 7) (v := ?_) rfl (by kernel_rfl) (by kernel_rfl) (by kernel_rfl) (fun _ _ _ h => h) (Or.inl ⟨?_, ?_⟩) (by assumption) ?_; rotate_left; rfl; focus (intro w hSw; (try dsimp only at hSw); go_simp; all_goals (with_reducible rfl))
          (try simp only [List.getElem_toArray, List.getElem_cons_zero, List.getElem_cons_succ, Act.put, List.setIfInBounds_toArray, List.set_cons_zero, List.set_cons_succ])
          refine wpAnyH_ready (rs := [9]) (by kernel_rfl) (by simp) ?_
          refine AllReadyH.cons rfl (fun K hK => ?_) AllReadyH.nil
          go_simp
          refine (S16.scope_walk zs g k W5 HS.tape).mono ?_
          rintro _ W6 ⟨s, k, hsl, rfl, ht, hg⟩
          go_simp
          replace Hx3 := Hx3.call hg
          replace Hx1 := Hx1.call hg
          replace Hx11 := Hx11.call hg
          replace HS := HS.call ht hg
          refine hK.out _ _ (ints_cell Hx3.blk r hr6) (fun hHeld => ?_)
          clear hK K ht hg
          (try simp only [List.getElem_toArray, List.getElem_cons_zero, List.getElem_cons_succ, Act.put, List.setIfInBounds_toArray, List.set_cons_zero, List.set_cons_succ])
          refine wpAnyH_take (i := 10) (v := ?_) rfl (by kernel_rfl) (by kernel_rfl) (by kernel_rfl) (fun _ _ _ h => h) (Or.inl ⟨?_, ?_⟩) (by assumption) ?_; rotate_left; rfl; focus (intro w hSw; (try dsimp only at hSw); go_simp; all_goals (with_reducible rfl))
          (try simp only [List.getElem_toArray, List.getElem_cons_zero, List.getElem_cons_succ, Act.put, List.setIfInBounds_toArray, List.set_cons_zero, List.set_cons_succ])
          refine wpAnyH_ready (rs := [12]) (by kernel_rfl) (by simp) ?_
          refine AllReadyH.cons rfl (fun K hK => ?_) AllReadyH.nil
          rw [if_pos (by rfl)]
          obtain ⟨sl, rfl⟩ := str_of s
          refine wp_store_blk 31 _ _ rfl b11 clZ.arr (Cl.mk xl (secC r) [] sl none 0).arr _ rfl rfl Hx11.blk rfl cl_size (Cl.ones _) ?_
          refine hK.out _ _ (ints_cell (Hx3.blk.grown (setRow_only W6 b11 (Cl.mk xl (secC r) [] sl none 0).arr) (Hx3.unlike Hx11)) r hr6) (fun hHeld => ?_)
          clear hK K
          have HF := CliMid.of HS Hx11 hx hsl hr6
          (try simp only [List.getElem_toArray, List.getElem_cons_zero, List.getElem_cons_succ, Act.put, List.setIfInBounds_toArray, List.set_cons_zero, List.set_cons_succ])
          refine wpAnyH_done (by kernel_rfl) ?_ _
          go_wp2_with fail
          go_meet
          exact HF
      · go_simp
        have hx11 := HS.made 31 cCz
        replace Hx3 := Hx3.alloc (.cells cCz 31)
        replace HS := HS.alloc (.cells cCz 31)
        generalize W1.alloc (.cells cCz 31) = W2 at HS Hx3 hx11 ⊢
        generalize W1.heap.size = b11 at hx11 ⊢
        have Hx11 := hx11
        refine hK.out _ _ trivial (fun hHeld => ?_)
        clear hK K hx11
        (try simp only [List.getElem_toArray, List.getElem_cons_zero, List.getElem_cons_succ, Act.put, List.setIfInBounds_toArray, List.set_cons_zero, List.set_cons_succ])
        refine wpAnyH_ready (rs := [1]) (by kernel_rfl) (by simp) ?_
        refine AllReadyH.cons rfl (fun K hK => ?_) AllReadyH.nil
        go_simp
        have hx1 := HS.made 9 cC1
        replace Hx3 := Hx3.alloc (.cells cC1 9)
        replace Hx11 := Hx11.alloc (.cells cC1 9)
        replace HS := HS.alloc (.cells cC1 9)
        generalize W2.alloc (.cells cC1 9) = W3 at HS Hx3 Hx11 hx1 ⊢
        generalize W2.heap.size = b1 at hx1 ⊢
        have Hx1 := hx1
        refine hK.out _ _ trivial (fun hHeld => ?_)
        clear hK K hx1
        (try simp only [List.getElem_toArray, List.getElem_cons_zero, List.getElem_cons_succ, Act.put, List.setIfInBounds_toArray, List.set_cons_zero, List.set_cons_succ])
        refine wpAnyH_ready (rs := [2]) (by kernel_rfl) (by simp) ?_
        refine AllReadyH.cons rfl (fun K hK => ?_) AllReadyH.nil
        go_simp
        refine (pick_walk zs g k _ 6 (b1 + 1) rowsC1 (by decide) (by decide) (by decide) W3 HS.tape (reads_blk (us := rowsC1.map Value.string) Hx1.blk) Hx1.lt Hx1.ne).mono ?_
        obtain ⟨xl, ex, hx⟩ := rowsC1_ok zs k
        rw [ex]
        rintro _ W4 ⟨rfl, ht, hg, -⟩
        generalize nextA zs k rowsC1.length = k at ht
        clear ex
        go_simp
        replace Hx3 := Hx3.call hg
        replace Hx11 := Hx11.call hg
        replace Hx1 := Hx1.call hg
        replace HS := HS.call ht hg
        refine hK.out _ _ trivial (fun hHeld => ?_)
        clear hK K ht hg
        (try simp only [List.getElem_toArray, List.getElem_cons_zero, List.getElem_cons_succ, Act.put, List.setIfInBounds_toArray, List.set_cons_zero, List.set_cons_succ])
        refine wpAnyH_ready (rs := [5]) (by kernel_rfl) (by simp) ?_
        refine AllReadyH.cons rfl (fun K hK => ?_) AllReadyH.nil
        go_simp
        refine (next_walk zs g k 6 W4 HS.tape (by omega)).mono ?_
        obtain ⟨r, er, hr6⟩ := next6 zs k
        rw [er]
        rintro _ W5 ⟨rfl, ht, hg, -⟩
        generalize nextA zs k 6 = k at ht
        clear er
        go_simp
        replace Hx3 := Hx3.call hg
        replace Hx11 := Hx11.call hg
        replace Hx1 := Hx1.call hg
        replace HS := HS.call ht hg
        refine hK.out _ _ trivial (fun hHeld => ?_)
        clear hK K ht hg
        (try simp only [List.getElem_toArray, List.getElem_cons_zero, List.getElem_cons_succ, Act.put, List.setIfInBounds_toArray, List.set_cons_zero, List.set_cons_succ])
        have hrI : (r : Int) < 6 := by omega
        have hHeld := ints_cell Hx3.blk r hr6
        refine K9.wpAnyH_grow (S' := fun W => W.cell? ⟨b3, r, none⟩ = some (.int .i64 (secC r))) (fun _ _ => trivial) _ _ _ _ ?_
        refine wpAnyH_take (i := 6) (v := ?_) rfl (by kernel_rfl) (by kernel_rfl) (by kernel_rfl) (fun _ _ _ h => h) (Or.inl ⟨?_, ?_⟩) (by assumption) ?_; rotate_left; rfl; focus (intro w hSw; (try dsimp only at hSw); go_simp; all_goals (with_reducible rfl))
        (try simp only [List.getElem_toArray, List.getElem_cons_zero, List.getElem_cons_succ, Act.put, List.setIfInBounds_toArray, List.set_cons_zero, List.set_cons_succ])
        refine wpAnyH_take (i := 7) (v := ?_) rfl (by kernel_rfl) (by kernel_rfl) (by kernel_rfl) (fun _ _ _ h => h) (Or.inl ⟨?_, ?_⟩) (by assumption) ?_; rotate_left; rfl; focus (intro w hSw; (try dsimp only at hSw); go_simp; all_goals (with_reducible rfl))
        (try simp only [List.getElem_toArray, List.getElem_cons_zero, List.getElem_cons_succ, Act.put, List.setIfInBounds_toArray, List.set_cons_zero, List.set_cons_succ])
        refine wpAnyH_ready (rs := [9]) (by kernel_rfl) (by simp) ?_
        refine AllReadyH.cons rfl (fun K hK => ?_) AllReadyH.nil
        go_simp
        refine (S16.scope_walk zs g k W5 HS.tape).mono ?_
        rintro _ W6 ⟨s, k, hsl, rfl, ht, hg⟩
        go_simp
        replace Hx3 := Hx3.call hg
        replace Hx11 := Hx11.call hg
        replace Hx1 := Hx1.call hg
        replace HS := HS.call ht hg
        refine hK.out _ _ (ints_cell Hx3.blk r hr6) (fun hHeld => ?_)
        clear hK K ht hg
        (try simp only [List.getElem_toArray, List.getElem_cons_zero, List.getElem_cons_succ, Act.put, List.setIfInBounds_toArray, List.set_cons_zero, List.set_cons_succ])
        refine wpAnyH_take (i := 10) (v := ?_) rfl (by kernel_rfl) (by kernel_rfl) (by kernel_rfl) (fun _ _ _ h => h) (Or.inl ⟨?_, ?_⟩) (by assumption) ?_; rotate_left; rfl; focus (intro w hSw; (try dsimp only at hSw); go_simp; all_goals (with_reducible rfl))
        (try simp only [List.getElem_toArray, List.getElem_cons_zero, List.getElem_cons_succ, Act.put, List.setIfInBounds_toArray, List.set_cons_zero, List.set_cons_succ])
        refine wpAnyH_ready (rs := [12]) (by kernel_rfl) (by simp) ?_
        refine AllReadyH.cons rfl (fun K hK => ?_) AllReadyH.nil
        rw [if_pos (by rfl)]
        obtain ⟨sl, rfl⟩ := str_of s
        refine wp_store_blk 31 _ _ rfl b11 clZ.arr (Cl.mk xl (secC r) [] sl none 0).arr _ rfl rfl Hx11.blk rfl cl_size (Cl.ones _) ?_
        refine hK.out _ _ (ints_cell (Hx3.blk.grown (setRow_only W6 b11 (Cl.mk xl (secC r) [] sl none 0).arr) (Hx3.unlike Hx11)) r hr6) (fun hHeld => ?_)
        clear hK K
        have HF := CliMid.of HS Hx11 hx hsl hr6
        (try simp only [List.getElem_toArray, List.getElem_cons_zero, List.getElem_cons_succ, Act.put, List.setIfInBounds_toArray, List.set_cons_zero, List.set_cons_succ])
        refine wpAnyH_done (by kernel_rfl) ?_ _
        go_wp2_with fail
        go_meet
        exact HF
    · go_simp
      have hx11 := HS.made 31 cCz
      replace HS := HS.alloc (.cells cCz 31)
      generalize W0.alloc (.cells cCz 31) = W1 at HS hx11 ⊢
      generalize W0.heap.size = b11 at hx11 ⊢
      have Hx11 := hx11
      refine hK.out _ _ trivial (fun hHeld => ?_)
      clear hK K hx11
      (try simp only [List.getElem_toArray, List.getElem_cons_zero, List.getElem_cons_succ, Act.put, List.setIfInBounds_toArray, List.set_cons_zero, List.set_cons_succ])
      refine wpAnyH_ready (rs := [1, 3]) (by kernel_rfl) (by simp) ?_
      refine AllReadyH.cons rfl (fun K hK => ?_) ( AllReadyH.cons rfl (fun K hK => ?_) AllReadyH.nil)
      · go_simp
        have hx1 := HS.made 9 cC1
        replace Hx11 := Hx11.alloc (.cells cC1 9)
        replace HS := HS.alloc (.cells cC1 9)
        generalize W1.alloc (.cells cC1 9) = W2 at HS Hx11 hx1 ⊢
        generalize W1.heap.size = b1 at hx1 ⊢
        have Hx1 := hx1
        refine hK.out _ _ trivial (fun hHeld => ?_)
        clear hK K hx1
        (try simp only [List.getElem_toArray, List.getElem_cons_zero, List.getElem_cons_succ, Act.put, List.setIfInBounds_toArray, List.set_cons_zero, List.set_cons_succ])
        refine wpAnyH_ready (rs := [2, 3]) (by kernel_rfl) (by simp) ?_
        refine AllReadyH.cons rfl (fun K hK => ?_) ( AllReadyH.cons rfl (fun K hK => ?_) AllReadyH.nil)
        · go_simp
          refine (pick_walk zs g k _ 6 (b1 + 1) rowsC1 (by decide) (by decide) (by decide) W2 HS.tape (reads_blk (us := rowsC1.map Value.string) Hx1.blk) Hx1.lt Hx1.ne).mono ?_
          obtain ⟨xl, ex, hx⟩ := rowsC1_ok zs k
          rw [ex]
          rintro _ W3 ⟨rfl, ht, hg, -⟩
          generalize nextA zs k rowsC1.length = k at ht
          clear ex
          go_simp
          replace Hx11 := Hx11.call hg
          replace Hx1 := Hx1.call hg
          replace HS := HS.call ht hg
          refine hK.out _ _ trivial (fun hHeld => ?_)
          clear hK K ht hg
          (try simp only [List.getElem_toArray, List.getElem_cons_zero, List.getElem_cons_succ, Act.put, List.setIfInBounds_toArray, List.set_cons_zero, List.set_cons_succ])
          refine wpAnyH_ready (rs := [3, 5]) (by kernel_rfl) (by simp) ?_
          refine AllReadyH.cons rfl (fun K hK => ?_) ( AllReadyH.cons rfl (fun K hK => ?_) AllReadyH.nil)
          · go_simp
            have hx3 := HS.made 3 cCi
            replace Hx11 := Hx11.alloc (.cells cCi 3)
            replace Hx1 := Hx1.alloc (.cells cCi 3)
            replace HS := HS.alloc (.cells cCi 3)
            generalize W3.alloc (.cells cCi 3) = W4 at HS Hx11 Hx1 hx3 ⊢
            generalize W3.heap.size = b3 at hx3 ⊢
            have Hx3 := hx3
            refine hK.out _ _ trivial (fun hHeld => ?_)
            clear hK K hx3
            (try simp only [List.getElem_toArray, List.getElem_cons_zero, List.getElem_cons_succ, Act.put, List.setIfInBounds_toArray, List.set_cons_zero, List.set_cons_succ])
            refine wpAnyH_ready (rs := [5]) (by kernel_rfl) (by simp) ?_
            refine AllReadyH.cons rfl (fun K hK => ?_) AllReadyH.nil
            go_simp
            refine (next_walk zs g k 6 W4 HS.tape (by omega)).mono ?_
            obtain ⟨r, er, hr6⟩ := next6 zs k
            rw [er]
            rintro _ W5 ⟨rfl, ht, hg, -⟩
            generalize nextA zs k 6 = k at ht
            clear er
            go_simp
            replace Hx11 := Hx11.call hg
            replace Hx1 := Hx1.call hg
            replace Hx3 := Hx3.call hg
            replace HS := HS.call ht hg
            refine hK.out _ _ trivial (fun hHeld => ?_)
            clear hK K ht hg
            (try simp only [List.getElem_toArray, List.getElem_cons_zero, List.getElem_cons_succ, Act.put, List.setIfInBounds_toArray, List.set_cons_zero, List.set_cons_succ])
            have hrI : (r : Int) < 6 := by omega
            have hHeld := ints_cell Hx3.blk r hr6
            refine K9.wpAnyH_grow (S' := fun W => W.cell? ⟨b3, r, none⟩ = some (.int .i64 (secC r))) (fun _ _ => trivial) _ _ _ _ ?_
            refine wpAnyH_take (i := 6) (v := ?_) rfl (by kernel_rfl) (by kernel_rfl) (by kernel_rfl) (fun _ _ _ h => h) (Or.inl ⟨?_, ?_⟩) (by assumption) ?_; rotate_left; rfl; focus (intro w hSw; (try dsimp only at hSw); go_simp; all_goals (with_reducible rfl))
            (try simp only [List.getElem_toArray, List.getElem_cons_zero, List.getElem_cons_succ, Act.put, List.setIfInBounds_toArray, List.set_cons_zero, List.set_cons_succ])
            refine wpAnyH_take (i := 7) (v := ?_) rfl (by kernel_rfl) (by kernel_rfl) (by kernel_rfl) (fun _ _ _ h => h) (Or.inl ⟨?_, ?_⟩) (by assumption) ?_; rotate_left; rfl; focus (intro w hSw; (try dsimp only at hSw); go_simp; all_goals (with_reducible rfl))
            (try simp only [List.getElem_toArray, List.getElem_cons_zero, List.getElem_cons_succ, Act.put, List.setIfInBounds_toArray, List.set_cons_zero, List.set_cons_succ])
            refine wpAnyH_ready (rs := [9]) (by kernel_rfl) (by simp) ?_
            refine AllReadyH.cons rfl (fun K hK => ?_) AllReadyH.nil
            go_simp
            refine (S16.scope_walk zs g k W5 HS.tape).mono ?_
            rintro _ W6 ⟨s, k, hsl, rfl, ht, hg⟩
            go_simp
            replace Hx11 := Hx11.call hg
            replace Hx1 := Hx1.call hg
            replace Hx3 := Hx3.call hg
            replace HS := HS.call ht hg
            refine hK.out _ _ (ints_cell Hx3.blk r hr6) (fun hHeld => ?_)
            clear hK K ht hg
            (try simp only [List.getElem_toArray, List.getElem_cons_zero, List.getElem_cons_succ, Act.put, List.setIfInBounds_toArray, List.set_cons_zero, List.set_cons_succ])
            refine wpAnyH_take (i := 10) (v := ?_) rfl (by kernel_rfl) (by kernel_rfl) (by kernel_rfl) (fun _ _ _ h => h) (Or.inl ⟨?_, ?_⟩) (by assumption) ?_; rotate_left; rfl; focus (intro w hSw; (try dsimp only at hSw); go_simp; all_goals (with_reducible rfl))
            (try simp only [List.getElem_toArray, List.getElem_cons_zero, List.getElem_cons_succ, Act.put, List.setIfInBounds_toArray, List.set_cons_zero, List.set_cons_succ])
            refine wpAnyH_ready (rs := [12]) (by kernel_rfl) (by simp) ?_
            refine AllReadyH.cons rfl (fun K hK => ?_) AllReadyH.nil
            rw [if_pos (by rfl)]
            obtain ⟨sl, rfl⟩ := str_of s
            refine wp_store_blk 31 _ _ rfl b11 clZ.arr (Cl.mk xl (secC r) [] sl none 0).arr _ rfl rfl Hx11.blk rfl cl_size (Cl.ones _) ?_
            refine hK.out _ _ (ints_cell (Hx3.blk.grown (setRow_only W6 b11 (Cl.mk xl (secC r) [] sl none 0).arr) (Hx3.unlike Hx11)) r hr6) (fun hHeld => ?_)
            clear hK K
            have HF := CliMid.of HS Hx11 hx hsl hr6
            (try simp only [List.getElem_toArray, List.getElem_cons_zero, List.getElem_cons_succ, Act.put, List.setIfInBounds_toArray, List.set_cons_zero, List.set_cons_succ])
            refine wpAnyH_done (by kernel_rfl) ?_ _
            go_wp2_with fail
            go_meet
            exact HF
          · go_simp
            refine (next_walk zs g k 6 W3 HS.tape (by omega)).mono ?_
            obtain ⟨r, er, hr6⟩ := next6 zs k
            rw [er]
            rintro _ W4 ⟨rfl, ht, hg, -⟩
            generalize nextA zs k 6 = k at ht
            clear er
            go_simp
            replace Hx11 := Hx11.call hg
            replace Hx1 := Hx1.call hg
            replace HS := HS.call ht hg
            refine hK.out _ _ trivial (fun hHeld => ?_)
            clear hK K ht hg
            (try simp only [List.getElem_toArray, List.getElem_cons_zero, List.getElem_cons_succ, Act.put, List.setIfInBounds_toArray, List.set_cons_zero, List.set_cons_succ])
            refine wpAnyH_ready (rs := [3, 9]) (by kernel_rfl) (by simp) ?_
            refine AllReadyH.cons rfl (fun K hK => ?_) ( AllReadyH.cons rfl (fun K hK => ?_) AllReadyH.nil)
            · go_simp
              have hx3 := HS.made 3 cCi
              replace Hx11 := Hx11.alloc (.cells cCi 3)
              replace Hx1 := Hx1.alloc (.cells cCi 3)
              replace HS := HS.alloc (.cells cCi 3)
              generalize W4.alloc (.cells cCi 3) = W5 at HS Hx11 Hx1 hx3 ⊢
              generalize W4.heap.size = b3 at hx3 ⊢
              have Hx3 := hx3
              refine hK.out _ _ trivial (fun hHeld => ?_)
              clear hK K hx3
              (try simp only [List.getElem_toArray, List.getElem_cons_zero, List.getElem_cons_succ, Act.put, List.setIfInBounds_toArray, List.set_cons_zero, List.set_cons_succ])
              have hrI : (r : Int) < 6 := by omega
              have hHeld := ints_cell Hx3.blk r hr6
              refine K9.wpAnyH_grow (S' := fun W => W.cell? ⟨b3, r, none⟩ = some (.int .i64 (secC r))) (fun _ _ => trivial) _ _ _ _ ?_
              refine wpAnyH_take (i := 6) (v := ?_) rfl (by kernel_rfl) (by kernel_rfl) (by kernel_rfl) (fun _ _ _ h => h) (Or.inl ⟨?_, ?_⟩) (by assumption) ?_; rotate_left; rfl; focus (intro w hSw; (try dsimp only at hSw); go_simp; all_goals (with_reducible rfl))
              (try simp only [List.getElem_toArray, List.getElem_cons_zero, List.getElem_cons_succ, Act.put, List.setIfInBounds_toArray, List.set_cons_zero, List.set_cons_succ])
              refine wpAnyH_take (i := 7) (v := ?_) rfl (by kernel_rfl) (by kernel_rfl) (by kernel_rfl) (fun _ _ _ h => h) (Or.inl ⟨?_, ?_⟩) (by assumption) ?_; rotate_left; rfl; focus (intro w hSw; (try dsimp only at hSw); go_simp; all_goals (with_reducible rfl))
              (try simp only [List.getElem_toArray, List.getElem_cons_zero, List.getElem_cons_succ, Act.put, List.setIfInBounds_toArray, List.set_cons_zero, List.set_cons_succ])
              refine wpAnyH_ready (rs := [9]) (by kernel_rfl) (by simp) ?_
              refine AllReadyH.cons rfl (fun K hK => ?_) AllReadyH.nil
              go_simp
              refine (S16.scope_walk zs g k W5 HS.tape).mono ?_
              rintro _ W6 ⟨s, k, hsl, rfl, ht, hg⟩
              go_simp
              replace Hx11 := Hx11.call hg
              replace Hx1 := Hx1.call hg
              replace Hx3 := Hx3.call hg
              replace HS := HS.call ht hg
              refine hK.out _ _ (ints_cell Hx3.blk r hr6) (fun hHeld => ?_)
              clear hK K ht hg
              (try simp only [List.getElem_toArray, List.getElem_cons_zero, List.getElem_cons_succ, Act.put, List.setIfInBounds_toArray, List.set_cons_zero, List.set_cons_succ])
              refine wpAnyH_take (i := 10) (v := ?_) rfl (by kernel_rfl) (by kernel_rfl) (by kernel_rfl) (fun _ _ _ h => h) (Or.inl ⟨?_, ?_⟩) (by assumption) ?_; rotate_left; rfl; focus (intro w hSw; (try dsimp only at hSw); go_simp; all_goals (with_reducible rfl))
              (try simp only [List.getElem_toArray, List.getElem_cons_zero, List.getElem_cons_succ, Act.put, List.setIfInBounds_toArray, List.set_cons_zero, List.set_cons_succ])
              refine wpAnyH_ready (rs := [12]) (by kernel_rfl) (by simp) ?_
              refine AllReadyH.cons rfl (fun K hK => ?_) AllReadyH.nil
              rw [if_pos (by rfl)]
              obtain ⟨sl, rfl⟩ := str_of s
              refine wp_store_blk 31 _ _ rfl b11 clZ.arr (Cl.mk xl (secC r) [] sl none 0).arr _ rfl rfl Hx11.blk rfl cl_size (Cl.ones _) ?_
              refine hK.out _ _ (ints_cell (Hx3.blk.grown (setRow_only W6 b11 (Cl.mk xl (secC r) [] sl none 0).arr) (Hx3.unlike Hx11)) r hr6) (fun hHeld => ?_)
              clear hK K
              have HF := CliMid.of HS Hx11 hx hsl hr6
              (try simp only [List.getElem_toArray, List.getElem_cons_zero, List.getElem_cons_succ, Act.put, List.setIfInBounds_toArray, List.set_cons_zero, List.set_cons_succ])
              refine wpAnyH_done (by kernel_rfl) ?_ _
              go_wp2_with fail
              go_meet
              exact HF
            · go_simp
              refine (S16.scope_walk zs g k W4 HS.tape).mono ?_
              rintro _ W5 ⟨s, k, hsl, rfl, ht, hg⟩
              go_simp
              replace Hx11 := Hx11.call hg
              replace Hx1 := Hx1.call hg
              replace HS := HS.call ht hg
              refine hK.out _ _ trivial (fun hHeld => ?_)
              clear hK K ht hg
              (try simp only [List.getElem_toArray, List.getElem_cons_zero, List.getElem_cons_succ, Act.put, List.setIfInBounds_toArray, List.set_cons_zero, List.set_cons_succ])
              refine wpAnyH_ready (rs := [3]) (by kernel_rfl) (by simp) ?_
              refine AllReadyH.cons rfl (fun K hK => ?_) AllReadyH.nil
              go_simp
              have hx3 := HS.made 3 cCi
              replace Hx11 := Hx11.alloc (.cells cCi 3)
              replace Hx1 := Hx1.alloc (.cells cCi 3)
              replace HS := HS.alloc (.cells cCi 3)
              generalize W5.alloc (.cells cCi 3) = W6 at HS Hx11 Hx1 hx3 ⊢
              generalize W5.heap.size = b3 at hx3 ⊢
              have Hx3 := hx3
              refine hK.out _ _ trivial (fun hHeld => ?_)
              clear hK K hx3
              (try simp only [List.getElem_toArray, List.getElem_cons_zero, List.getElem_cons_succ, Act.put, List.setIfInBounds_toArray, List.set_cons_zero, List.set_cons_succ])
              have hrI : (r : Int) < 6 := by omega
              have hHeld := ints_cell Hx3.blk r hr6
              refine K9.wpAnyH_grow (S' := fun W => W.cell? ⟨b3, r, none⟩ = some (.int .i64 (secC r))) (fun _ _ => trivial) _ _ _ _ ?_
              refine wpAnyH_take (i := 6) (v := ?_) rfl (by kernel_rfl) (by kernel_rfl) (by kernel_rfl) (fun _ _ _ h => h) (Or.inl ⟨?_, ?_⟩) (by assumption) ?_; rotate_left; rfl; focus (intro w hSw; (try dsimp only at hSw); go_simp; all_goals (with_reducible rfl))
              (try simp only [List.getElem_toArray, List.getElem_cons_zero, List.getElem_cons_succ, Act.put, List.setIfInBounds_toArray, List.set_cons_zero, List.set_cons_succ])
              refine wpAnyH_take (i := 7) (v := ?_) rfl (by kernel_rfl) (by kernel_rfl) (by kernel_rfl) (fun _ _ _ h => h) (Or.inl ⟨?_, ?_⟩) (by assumption) ?_; rotate_left; rfl; focus (intro w hSw; (try dsimp only at hSw); go_simp; all_goals (with_reducible rfl))
              (try simp only [List.getElem_toArray, List.getElem_cons_zero, List.getElem_cons_succ, Act.put, List.setIfInBounds_toArray, List.set_cons_zero, List.set_cons_succ])
              refine wpAnyH_take (i := 10) (v := ?_) rfl (by kernel_rfl) (by kernel_rfl) (by kernel_rfl) (fun _ _ _ h => h) (Or.inl ⟨?_, ?_⟩) (by assumption) ?_; rotate_left; rfl; focus (intro w hSw; (try dsimp only at hSw); go_simp; all_goals (with_reducible rfl))
              (try simp only [List.getElem_toArray, List.getElem_cons_zero, List.getElem_cons_succ, Act.put, List.setIfInBounds_toArray, List.set_cons_zero, List.set_cons_succ])
              refine wpAnyH_ready (rs := [12]) (by kernel_rfl) (by simp) ?_
              refine AllReadyH.cons rfl (fun K hK => ?_) AllReadyH.nil
              rw [if_pos (by rfl)]
              obtain ⟨sl, rfl⟩ := str_of s
              refine wp_store_blk 31 _ _ rfl b11 clZ.arr (Cl.mk xl (secC r) [] sl none 0).arr _ rfl rfl Hx11.blk rfl cl_size (Cl.ones _) ?_
              refine hK.out _ _ (ints_cell (Hx3.blk.grown (setRow_only W6 b11 (Cl.mk xl (secC r) [] sl none 0).arr) (Hx3.unlike Hx11)) r hr6) (fun hHeld => ?_)
              clear hK K
              have HF := CliMid.of HS Hx11 hx hsl hr6
              (try simp only [List.getElem_toArray, List.getElem_cons_zero, List.getElem_cons_succ, Act.put, List.setIfInBounds_toArray, List.set_cons_zero, List.set_cons_succ])
              refine wpAnyH_done (by kernel_rfl) ?_ _
              go_wp2_with fail
              go_meet
              exact HF
        · go_simp
          have hx3 := HS.made 3 cCi
          replace Hx11 := Hx11.alloc (.cells cCi 3)
          replace Hx1 := Hx1.alloc (.cells cCi 3)
          replace HS := HS.alloc (.cells cCi 3)
          generalize W2.alloc (.cells cCi 3) = W3 at HS Hx11 Hx1 hx3 ⊢
          generalize W2.heap.size = b3 at hx3 ⊢
          have Hx3 := hx3
          refine hK.out _ _ trivial (fun hHeld => ?_)
          clear hK K hx3
          (try simp only [List.getElem_toArray, List.getElem_cons_zero, List.getElem_cons_succ, Act.put, List.setIfInBounds_toArray, List.set_cons_zero, List.set_cons_succ])
          refine wpAnyH_ready (rs := [2]) (by kernel_rfl) (by simp) ?_
          refine AllReadyH.cons rfl (fun K hK => ?_) AllReadyH.nil
          go_simp
          refine (pick_walk zs g k _ 6 (b1 + 1) rowsC1 (by decide) (by decide) (by decide) W3 HS.tape (reads_blk (us := rowsC1.map Value.string) Hx1.blk) Hx1.lt Hx1.ne).mono ?_
          obtain ⟨xl, ex, hx⟩ := rowsC1_ok zs k
          rw [ex]
          rintro _ W4 ⟨rfl, ht, hg, -⟩
          generalize nextA zs k rowsC1.length = k at ht
          clear ex
          go_simp
          replace Hx11 := Hx11.call hg
          replace Hx1 := Hx1.call hg
          replace Hx3 := Hx3.call hg
          replace HS := HS.call ht hg
          refine hK.out _ _ trivial (fun hHeld => ?_)
          clear hK K ht hg
          (try simp only [List.getElem_toArray, List.getElem_cons_zero, List.getElem_cons_succ, Act.put, List.setIfInBounds_toArray, List.set_cons_zero, List.set_cons_succ])
          refine wpAnyH_ready (rs := [5]) (by kernel_rfl) (by simp) ?_
          refine AllReadyH.cons rfl (fun K hK => ?_) AllReadyH.nil
          go_simp
          refine (next_walk zs g k 6 W4 HS.tape (by omega)).mono ?_
          obtain ⟨r, er, hr6⟩ := next6 zs k
          rw [er]
          rintro _ W5 ⟨rfl, ht, hg, -⟩
          generalize nextA zs k 6 = k at ht
          clear er
          go_simp
          replace Hx11 := Hx11.call hg
          replace Hx1 := Hx1.call hg
          replace Hx3 := Hx3.call hg
          replace HS := HS.call ht hg
          refine hK.out _ _ trivial (fun hHeld => ?_)
          clear hK K ht hg
          (try simp only [List.getElem_toArray, List.getElem_cons_zero, List.getElem_cons_succ, Act.put, List.setIfInBounds_toArray, List.set_cons_zero, List.set_cons_succ])
          have hrI : (r : Int) < 6 := by omega
          have hHeld := ints_cell Hx3.blk r hr6
          refine K9.wpAnyH_grow (S' := fun W => W.cell? ⟨b3, r, none⟩ = some (.int .i64 (secC r))) (fun _ _ => trivial) _ _ _ _ ?_
          refine wpAnyH_take (i := 6) (v := ?_) rfl (by kernel_rfl) (by kernel_rfl) (by kernel_rfl) (fun _ _ _ h => h) (Or.inl ⟨?_, ?_⟩) (by assumption) ?_; rotate_left; rfl; focus (intro w hSw; (try dsimp only at hSw); go_simp; all_goals (with_reducible rfl))
          (try simp only [List.getElem_toArray, List.getElem_cons_zero, List.getElem_cons_succ, Act.put, List.setIfInBounds_toArray, List.set_cons_zero, List.set_cons_succ])
          refine wpAnyH_take (i := 7) (v := ?_) rfl (by kernel_rfl) (by kernel_rfl) (by kernel_rfl) (fun _ _ _ h => h) (Or.inl ⟨?_, ?_⟩) (by assumption) ?_; rotate_left; rfl; focus (intro w hSw; (try dsimp only at hSw); go_simp; all_goals (with_reducible rfl))
          (try simp only [List.getElem_toArray, List.getElem_cons_zero, List.getElem_cons_succ, Act.put, List.setIfInBounds_toArray, List.set_cons_zero, List.set_cons_succ])
          refine wpAnyH_ready (rs := [9]) (by kernel_rfl) (by simp) ?_
          refine AllReadyH.cons rfl (fun K hK => ?_) AllReadyH.nil
          go_simp
          refine (S16.scope_walk zs g k W5 HS.tape).mono ?_
          rintro _ W6 ⟨s, k, hsl, rfl, ht, hg⟩
          go_simp
          replace Hx11 := Hx11.call hg
          replace Hx1 := Hx1.call hg
          replace Hx3 := Hx3.call hg
          replace HS := HS.call ht hg
          refine hK.out _ _ (ints_cell Hx3.blk r hr6) (fun hHeld => ?_)
          clear hK K ht hg
          (try simp only [List.getElem_toArray, List.getElem_cons_zero, List.getElem_cons_succ, Act.put, List.setIfInBounds_toArray, List.set_cons_zero, List.set_cons_succ])
          refine wpAnyH_take (i := 10) (v := ?_) rfl (by kernel_rfl) (by kernel_rfl) (by kernel_rfl) (fun _ _ _ h => h) (Or.inl ⟨?_, ?_⟩) (by assumption) ?_; rotate_left; rfl; focus (intro w hSw; (try dsimp only at hSw); go_simp; all_goals (with_reducible rfl))
          (try simp only [List.getElem_toArray, List.getElem_cons_zero, List.getElem_cons_succ, Act.put, List.setIfInBounds_toArray, List.set_cons_zero, List.set_cons_succ])
          refine wpAnyH_ready (rs := [12]) (by kernel_rfl) (by simp) ?_
          refine AllReadyH.cons rfl (fun K hK => ?_) AllReadyH.nil
          rw [if_pos (by rfl)]
          obtain ⟨sl, rfl⟩ := str_of s
          refine wp_store_blk 31 _ _ rfl b11 clZ.arr (Cl.mk xl (secC r) [] sl none 0).arr _ rfl rfl Hx11.blk rfl cl_size (Cl.ones _) ?_
          refine hK.out _ _ (ints_cell (Hx3.blk.grown (setRow_only W6 b11 (Cl.mk xl (secC r) [] sl none 0).arr) (Hx3.unlike Hx11)) r hr6) (fun hHeld => ?_)
          clear hK K
          have HF := CliMid.of HS Hx11 hx hsl hr6
          (try simp only [List.getElem_toArray, List.getElem_cons_zero, List.getElem_cons_succ, Act.put, List.setIfInBounds_toArray, List.set_cons_zero, List.set_cons_succ])
          refine wpAnyH_done (by kernel_rfl) ?_ _
          go_wp2_with fail
          go_meet
          exact HF
      · go_simp
        have hx3 := HS.made 3 cCi
        replace Hx11 := Hx11.alloc (.cells cCi 3)
        replace HS := HS.alloc (.cells cCi 3)
        generalize W1.alloc (.cells cCi 3) = W2 at HS Hx11 hx3 ⊢
        generalize W1.heap.size = b3 at hx3 ⊢
        have Hx3 := hx3
        refine hK.out _ _ trivial (fun hHeld => ?_)
        clear hK K hx3
        (try simp only [List.getElem_toArray, List.getElem_cons_zero, List.getElem_cons_succ, Act.put, List.setIfInBounds_toArray, List.set_cons_zero, List.set_cons_succ])
        refine wpAnyH_ready (rs := [1]) (by kernel_rfl) (by simp) ?_
        refine AllReadyH.cons rfl (fun K hK => ?_) AllReadyH.nil
        go_simp
        have hx1 := HS.made 9 cC1
        replace Hx11 := Hx11.alloc (.cells cC1 9)
        replace Hx3 := Hx3.alloc (.cells cC1 9)
        replace HS := HS.alloc (.cells cC1 9)
        generalize W2.alloc (.cells cC1 9) = W3 at HS Hx11 Hx3 hx1 ⊢
        generalize W2.heap.size = b1 at hx1 ⊢
        have Hx1 := hx1
        refine hK.out _ _ trivial (fun hHeld => ?_)
        clear hK K hx1
        (try simp only [List.getElem_toArray, List.getElem_cons_zero, List.getElem_cons_succ, Act.put, List.setIfInBounds_toArray, List.set_cons_zero, List.set_cons_succ])
        refine wpAnyH_ready (rs := [2]) (by kernel_rfl) (by simp) ?_
        refine AllReadyH.cons rfl (fun K hK => ?_) AllReadyH.nil
        go_simp
        refine (pick_walk zs g k _ 6 (b1 + 1) rowsC1 (by decide) (by decide) (by decide) W3 HS.tape (reads_blk (us := rowsC1.map Value.string) Hx1.blk) Hx1.lt Hx1.ne).mono ?_
        obtain ⟨xl, ex, hx⟩ := rowsC1_ok zs k
        rw [ex]
        rintro _ W4 ⟨rfl, ht, hg, -⟩
        generalize nextA zs k rowsC1.length = k at ht
        clear ex
        go_simp
        replace Hx11 := Hx11.call hg
        replace Hx3 := Hx3.call hg
        replace Hx1 := Hx1.call hg
        replace HS := HS.call ht hg
        refine hK.out _ _ trivial (fun hHeld => ?_)
        clear hK K ht hg
        (try simp only [List.getElem_toArray, List.getElem_cons_zero, List.getElem_cons_succ, Act.put, List.setIfInBounds_toArray, List.set_cons_zero, List.set_cons_succ])
        refine wpAnyH_ready (rs := [5]) (by kernel_rfl) (by simp) ?_
        refine AllReadyH.cons rfl (fun K hK => ?_) AllReadyH.nil
        go_simp
        refine (next_walk zs g k 6 W4 HS.tape (by omega)).mono ?_
        obtain ⟨r, er, hr6⟩ := next6 zs k
        rw [er]
        rintro _ W5 ⟨rfl, ht, hg, -⟩
        generalize nextA zs k 6 = k at ht
        clear er
        go_simp
        replace Hx11 := Hx11.call hg
        replace Hx3 := Hx3.call hg
        replace Hx1 := Hx1.call hg
        replace HS := HS.call ht hg
        refine hK.out _ _ trivial (fun hHeld => ?_)
        clear hK K ht hg
        (try simp only [List.getElem_toArray, List.getElem_cons_zero, List.getElem_cons_succ, Act.put, List.setIfInBounds_toArray, List.set_cons_zero, List.set_cons_succ])
        have hrI : (r : Int) < 6 := by omega
        have hHeld := ints_cell Hx3.blk r hr6
        refine K9.wpAnyH_grow (S' := fun W => W.cell? ⟨b3, r, none⟩ = some (.int .i64 (secC r))) (fun _ _ => trivial) _ _ _ _ ?_
        refine wpAnyH_take (i := 6) (v := ?_) rfl (by kernel_rfl) (by kernel_rfl) (by kernel_rfl) (fun _ _ _ h => h) (Or.inl ⟨?_, ?_⟩) (by assumption) ?_; rotate_left; rfl; focus (intro w hSw; (try dsimp only at hSw); go_simp; all_goals (with_reducible rfl))
        (try simp only [List.getElem_toArray, List.getElem_cons_zero, List.getElem_cons_succ, Act.put, List.setIfInBounds_toArray, List.set_cons_zero, List.set_cons_succ])
        refine wpAnyH_take (i := 7) (v := ?_) rfl (by kernel_rfl) (by kernel_rfl) (by kernel_rfl) (fun _ _ _ h => h) (Or.inl ⟨?_, ?_⟩) (by assumption) ?_; rotate_left; rfl; focus (intro w hSw; (try dsimp only at hSw); go_simp; all_goals (with_reducible rfl))
        (try simp only [List.getElem_toArray, List.getElem_cons_zero, List.getElem_cons_succ, Act.put, List.setIfInBounds_toArray, List.set_cons_zero, List.set_cons_succ])
        refine wpAnyH_ready (rs := [9]) (by kernel_rfl) (by simp) ?_
        refine AllReadyH.cons rfl (fun K hK => ?_) AllReadyH.nil
        go_simp
        refine (S16.scope_walk zs g k W5 HS.tape).mono ?_
        rintro _ W6 ⟨s, k, hsl, rfl, ht, hg⟩
        go_simp
        replace Hx11 := Hx11.call hg
        replace Hx3 := Hx3.call hg
        replace Hx1 := Hx1.call hg
        replace HS := HS.call ht hg
        refine hK.out _ _ (ints_cell Hx3.blk r hr6) (fun hHeld => ?_)
        clear hK K ht hg
        (try simp only [List.getElem_toArray, List.getElem_cons_zero, List.getElem_cons_succ, Act.put, List.setIfInBounds_toArray, List.set_cons_zero, List.set_cons_succ])
        refine wpAnyH_take (i := 10) (v := ?_) rfl (by kernel_rfl) (by kernel_rfl) (by kernel_rfl) (fun _ _ _ h => h) (Or.inl ⟨?_, ?_⟩) (by assumption) ?_; rotate_left; rfl; focus (intro w hSw; (try dsimp only at hSw); go_simp; all_goals (with_reducible rfl))
        (try simp only [List.getElem_toArray, List.getElem_cons_zero, List.getElem_cons_succ, Act.put, List.setIfInBounds_toArray, List.set_cons_zero, List.set_cons_succ])
        refine wpAnyH_ready (rs := [12]) (by kernel_rfl) (by simp) ?_
        refine AllReadyH.cons rfl (fun K hK => ?_) AllReadyH.nil
        rw [if_pos (by rfl)]
        obtain ⟨sl, rfl⟩ := str_of s
        refine wp_store_blk 31 _ _ rfl b11 clZ.arr (Cl.mk xl (secC r) [] sl none 0).arr _ rfl rfl Hx11.blk rfl cl_size (Cl.ones _) ?_
        refine hK.out _ _ (ints_cell (Hx3.blk.grown (setRow_only W6 b11 (Cl.mk xl (secC r) [] sl none 0).arr) (Hx3.unlike Hx11)) r hr6) (fun hHeld => ?_)
        clear hK K
        have HF := CliMid.of HS Hx11 hx hsl hr6
        (try simp only [List.getElem_toArray, List.getElem_cons_zero, List.getElem_cons_succ, Act.put, List.setIfInBounds_toArray, List.set_cons_zero, List.set_cons_succ])
        refine wpAnyH_done (by kernel_rfl) ?_ _
        go_wp2_with fail
        go_meet
        exact HF
  case rest =>
    obtain ⟨b, k, xl, sl, z, rfl, hwb, hxl, hsl, hzz, hB, hS⟩ := hcut
    have cn := Lib.hid (next_walk zs g k 4 _ hS.1 (by omega))
    have hp := nextR_pos zs k 4 (by omega)
    obtain ⟨r, er⟩ : ∃ r : Nat, nextR zs k 4 = r := ⟨(nextR zs k 4).toNat, by omega⟩
    rw [er] at cn hp
    clear er
    have hl0 : StL zs g w b k xl sl z [] none 0 _ := ⟨hB, World.ownsRow_nil _ _ _ _, hS, hwb, by decide, fun p hp => by cases hp⟩
    clear HS hB hS
    go_wp2_with fail
    refine cn.out.mono ?_
    rintro _ w3 ⟨rfl, ht3, hg3, -⟩
    generalize nextA zs k 4 = k3 at ht3
    have HL := hl0.call ht3 hg3
    clear hl0 ht3 hg3 cn
    go_wp2_with fail
    go_loopw [4] (fun nv wr => ∃ (m k : Nat) (red : List (List UInt8)) (ra : Option Addr) (rc : Nat), nv = .int .i64 ((m : Int) - 1) ∧ red.length + m = r + 1 ∧ StL zs g w b k xl sl z red ra rc wr) (fun nv _ => (intOf nv + 1).toNat)
    case atStart => exact ⟨r + 1, k3, [], none, 0, by congr 1; omega, by simp, HL⟩
    case round =>
      clear HL
      obtain ⟨m, k, red, ra, rc, rfl, hlen, HS⟩ := hrel
      by_cases hm : m = 0
      · subst hm
        have hfin := blk_cl HS.blk
        have hS := HS.2.2.1
        have hoff : OffC ⟨xl, z, red, sl, ra, rc⟩ := ⟨hxl, hsl, hzz, ⟨by show 1 ≤ red.length; omega, HS.few⟩, HS.2.2.2.2.2⟩
        have hg := setRow_only wr w.heap.size (Cl.mk xl z red sl ra rc).arr
        have HO := Lib.hid (World.ownsRow.mono (own_only HS.own hg (by omega)) (show w.heap.size ≤ b + 1 by omega))
        have HT := Lib.hid (hS.1.grown hg (fun r e => by injection e with e; omega))
        have HG := Lib.hid (K9.only_setRow hS.2.1 (Nat.le_refl _) (Cl.mk xl z red sl ra rc).arr)
        have HK := Lib.hid hS.2.2.1
        have HX := Lib.hid hoff
        clear hS hg hoff HS
        go_wp2_with (first | (refine wpList_load_cl rfl _ rfl ⟨b, 0, none⟩ rfl ⟨xl, z, red, sl, ra, rc⟩ hfin ?_) | (refine wpList_store_blk rfl 31 _ _ rfl w.heap.size clZ.arr (Cl.mk xl z red sl ra rc).arr _ rfl rfl HK.out rfl cl_size (Cl.ones _) ?_))
        refine bodyPost_ret (results_cell_row Tryz.results14 _ _ w.heap.size _ _ _ _ rfl HK.out.setRow Tryz.underlying31 rfl (by kernel_rfl)) rfl ?_
        exact ⟨_, k, rfl, HX.out, HO.out, HT.out, HG.out⟩
      obtain ⟨m, rfl⟩ : ∃ m', m = m' + 1 := ⟨m - 1, by omega⟩
      rw [show (((m + 1 : Nat) : Int) - 1) = (m : Int) by omega]
      have hr3 : red.length ≤ 3 := by omega
      generalize hW0 : wr.drew = W0
      replace HS : StL zs g w b k xl sl z red ra rc W0 := by
        rw [← hW0]
        exact ⟨HS.1.drew, World.ownsRow.drew HS.2.1, ⟨HS.2.2.1.1.drewN 1, only_drew HS.2.2.1.2.1, HS.2.2.1.2.2.1.drew, HS.2.2.1.2.2.2⟩, HS.2.2.2⟩
      go_wp2_with fail
      refine wp_region_held_drew (S := fun W => True) (by kernel_rfl) trivial (fun hHeld => ?_)
      rw [hW0]
      clear hW0
      first | (refine wpAnyH_take (i := 0) (v := _) rfl (by kernel_rfl) (by kernel_rfl) (by kernel_rfl) (fun _ _ _ h => h) (Or.inr ⟨?_, rfl⟩) (by assumption) ?_; rfl) | (refine wpAnyH_take (i := 0) (v := ?_) rfl (by kernel_rfl) (by kernel_rfl) (by kernel_rfl) (fun _ _ _ h => h) (Or.inl ⟨?_, ?_⟩) (by assumption) ?_; rotate_left; rfl; focus (intro w hSw; (try dsimp only at hSw); go_simp; all_goals (with_reducible rfl)))
      (try simp only [List.getElem_toArray, List.getElem_cons_zero, List.getElem_cons_succ, Act.put, List.setIfInBounds_toArray, List.set_cons_zero, List.set_cons_succ])
      first | (refine wpAnyH_take (i := 2) (v := _) rfl (by kernel_rfl) (by kernel_rfl) (by kernel_rfl) (fun _ _ _ h => h) (Or.inr ⟨?_, rfl⟩) (by assumption) ?_; rfl) | (refine wpAnyH_take (i := 2) (v := ?_) rfl (by kernel_rfl) (by kernel_rfl) (by kernel_rfl) (fun _ _ _ h => h) (Or.inl ⟨?_, ?_⟩) (by assumption) ?_; rotate_left; rfl; focus (intro w hSw; (try dsimp only at hSw); go_simp; all_goals (with_reducible rfl)))
      (try simp only [List.getElem_toArray, List.getElem_cons_zero, List.getElem_cons_succ, Act.put, List.setIfInBounds_toArray, List.set_cons_zero, List.set_cons_succ])
      refine wpAnyH_ready (rs := [1, 3]) (by kernel_rfl) (by simp) ?_
      refine AllReadyH.cons rfl (fun K hK => ?_) ( AllReadyH.cons rfl (fun K hK => ?_) AllReadyH.nil)
      · have hc2 := HS.box.2.2.1
        have hblt := HS.blk.lt
        go_simp
        refine hK.out _ _ trivial (fun hHeld => ?_)
        clear hK K hc2 hblt
        (try simp only [List.getElem_toArray, List.getElem_cons_zero, List.getElem_cons_succ, Act.put, List.setIfInBounds_toArray, List.set_cons_zero, List.set_cons_succ])
        refine wpAnyH_ready (rs := [3]) (by kernel_rfl) (by simp) ?_
        refine AllReadyH.cons rfl (fun K hK => ?_) AllReadyH.nil
        go_simp
        have hx3 := HS.made 9 cC2
        replace HS := HS.alloc (.cells cC2 9)
        generalize W0.alloc (.cells cC2 9) = W1 at HS hx3 ⊢
        generalize W0.heap.size = b3 at hx3 ⊢
        have Hx3 := hx3
        refine hK.out _ _ trivial (fun hHeld => ?_)
        clear hK K hx3
        (try simp only [List.getElem_toArray, List.getElem_cons_zero, List.getElem_cons_succ, Act.put, List.setIfInBounds_toArray, List.set_cons_zero, List.set_cons_succ])
        refine wpAnyH_ready (rs := [4]) (by kernel_rfl) (by simp) ?_
        refine AllReadyH.cons rfl (fun K hK => ?_) AllReadyH.nil
        go_simp
        refine (pick_walk zs g k _ 6 (b3 + 1) rowsC2 (by decide) (by decide) (by decide) W1 HS.tape (reads_blk (us := rowsC2.map Value.string) Hx3.blk) Hx3.lt Hx3.ne).mono ?_
        obtain ⟨yl, ex, hy⟩ := rowsC2_ok zs k
        rw [ex]
        rintro _ W2 ⟨rfl, ht, hg, -⟩
        generalize nextA zs k rowsC2.length = k at ht
        clear ex
        go_simp
        replace Hx3 := Hx3.call hg
        replace HS := HS.call ht hg
        refine hK.out _ _ trivial (fun hHeld => ?_)
        clear hK K ht hg
        (try simp only [List.getElem_toArray, List.getElem_cons_zero, List.getElem_cons_succ, Act.put, List.setIfInBounds_toArray, List.set_cons_zero, List.set_cons_succ])
        refine wpAnyH_ready (rs := [5]) (by kernel_rfl) (by simp) ?_
        refine AllReadyH.cons rfl (fun K hK => ?_) AllReadyH.nil
        go_simp
        have hx5 := HS.made 9 #[.string ⟨yl.toArray⟩]
        replace Hx3 := Hx3.alloc (.cells #[.string ⟨yl.toArray⟩] 9)
        replace HS := HS.alloc (.cells #[.string ⟨yl.toArray⟩] 9)
        generalize W2.alloc (.cells #[.string ⟨yl.toArray⟩] 9) = W3 at HS Hx3 hx5 ⊢
        generalize W2.heap.size = b5 at hx5 ⊢
        have Hx5 := hx5
        refine hK.out _ _ trivial (fun hHeld => ?_)
        clear hK K hx5
        (try simp only [List.getElem_toArray, List.getElem_cons_zero, List.getElem_cons_succ, Act.put, List.setIfInBounds_toArray, List.set_cons_zero, List.set_cons_succ])
        refine wpAnyH_ready (rs := [6]) (by kernel_rfl) (by simp) ?_
        refine AllReadyH.cons rfl (fun K hK => ?_) AllReadyH.nil
        have hlt5 := Hx5.lt
        have hbs := HS.blk.lt
        have hl4 := HS.few
        refine step_append_any W3 (by rfl) (.tmp 23) (.tmp 27) 29 (by rfl) (b + 1) 9 i0 (.string ⟨#[]⟩) 1 16 Tryz.underlying29 hi hz0 hz1 hz2 rfl (by decide) (.slice ra red.length rc) red.length (strVs red) (by rfl) HS.own (b5 + 1) (some ⟨b5, 0, none⟩) 1 1 [.string ⟨yl.toArray⟩] (by rfl) (reads_blk (us := [.string ⟨yl.toArray⟩]) Hx5.blk) (by simp [Value.oneCell']) (by unfold maxLen; omega) (by omega) (by omega) ?_
        intro v' W4 hown hga hat
        have hown2 := str_next (l' := red ++ [yl]) hown rfl rfl
        obtain ⟨A7, c7, rfl, _, _⟩ := own_reads hown2 (Nat.le_refl _)
        have HA := HS.app hga
        refine hK.out _ _ trivial (fun hHeld => ?_)
        clear hK K hown hga hat
        (try simp only [List.getElem_toArray, List.getElem_cons_zero, List.getElem_cons_succ, Act.put, List.setIfInBounds_toArray, List.set_cons_zero, List.set_cons_succ])
        first | (refine wpAnyH_take (i := 7) (v := _) rfl (by kernel_rfl) (by kernel_rfl) (by kernel_rfl) (fun _ _ _ h => h) (Or.inr ⟨?_, rfl⟩) (by assumption) ?_; rfl) | (refine wpAnyH_take (i := 7) (v := ?_) rfl (by kernel_rfl) (by kernel_rfl) (by kernel_rfl) (fun _ _ _ h => h) (Or.inl ⟨?_, ?_⟩) (by assumption) ?_; rotate_left; rfl; focus (intro w hSw; (try dsimp only at hSw); go_simp; all_goals (with_reducible rfl)))
        (try simp only [List.getElem_toArray, List.getElem_cons_zero, List.getElem_cons_succ, Act.put, List.setIfInBounds_toArray, List.set_cons_zero, List.set_cons_succ])
        refine wpAnyH_ready (rs := [8]) (by kernel_rfl) (by simp) ?_
        refine AllReadyH.cons rfl (fun K hK => ?_) AllReadyH.nil
        have hf2 := HA.1.frozen 2
        have hblt := HA.1.lt
        have hcx := (boxC HA.1).2.2.1
        go_simp
        refine hK.out _ _ trivial (fun hHeld => ?_)
        clear hK K hf2 hblt hcx
        have HF := App.set HA hown2 hy hr3
        rw [List.length_append, List.length_singleton] at HF
        (try simp only [List.getElem_toArray, List.getElem_cons_zero, List.getElem_cons_succ, Act.put, List.setIfInBounds_toArray, List.set_cons_zero, List.set_cons_succ])
        refine wpAnyH_done (by kernel_rfl) ?_ _
        clear hHeld
        go_wp2_with fail
        exact ⟨⟨m, k, red ++ [yl], A7, c7, by go_num, by rw [List.length_append, List.length_singleton]; omega, HF⟩, by simp [intOf]; try omega⟩
      · go_simp
        have hx3 := HS.made 9 cC2
        replace HS := HS.alloc (.cells cC2 9)
        generalize W0.alloc (.cells cC2 9) = W1 at HS hx3 ⊢
        generalize W0.heap.size = b3 at hx3 ⊢
        have Hx3 := hx3
        refine hK.out _ _ trivial (fun hHeld => ?_)
        clear hK K hx3
        (try simp only [List.getElem_toArray, List.getElem_cons_zero, List.getElem_cons_succ, Act.put, List.setIfInBounds_toArray, List.set_cons_zero, List.set_cons_succ])
        refine wpAnyH_ready (rs := [1, 4]) (by kernel_rfl) (by simp) ?_
        refine AllReadyH.cons rfl (fun K hK => ?_) ( AllReadyH.cons rfl (fun K hK => ?_) AllReadyH.nil)
        · have hc2 := HS.box.2.2.1
          have hblt := HS.blk.lt
          go_simp
          refine hK.out _ _ trivial (fun hHeld => ?_)
          clear hK K hc2 hblt
          (try simp only [List.getElem_toArray, List.getElem_cons_zero, List.getElem_cons_succ, Act.put, List.setIfInBounds_toArray, List.set_cons_zero, List.set_cons_succ])
          refine wpAnyH_ready (rs := [4]) (by kernel_rfl) (by simp) ?_
          refine AllReadyH.cons rfl (fun K hK => ?_) AllReadyH.nil
          go_simp
          refine (pick_walk zs g k _ 6 (b3 + 1) rowsC2 (by decide) (by decide) (by decide) W1 HS.tape (reads_blk (us := rowsC2.map Value.string) Hx3.blk) Hx3.lt Hx3.ne).mono ?_
          obtain ⟨yl, ex, hy⟩ := rowsC2_ok zs k
          rw [ex]
          rintro _ W2 ⟨rfl, ht, hg, -⟩
          generalize nextA zs k rowsC2.length = k at ht
          clear ex
          go_simp
          replace Hx3 := Hx3.call hg
          replace HS := HS.call ht hg
          refine hK.out _ _ trivial (fun hHeld => ?_)
          clear hK K ht hg
          (try simp only [List.getElem_toArray, List.getElem_cons_zero, List.getElem_cons_succ, Act.put, List.setIfInBounds_toArray, List.set_cons_zero, List.set_cons_succ])
          refine wpAnyH_ready (rs := [5]) (by kernel_rfl) (by simp) ?_
          refine AllReadyH.cons rfl (fun K hK => ?_) AllReadyH.nil
          go_simp
          have hx5 := HS.made 9 #[.string ⟨yl.toArray⟩]
          replace Hx3 := Hx3.alloc (.cells #[.string ⟨yl.toArray⟩] 9)
          replace HS := HS.alloc (.cells #[.string ⟨yl.toArray⟩] 9)
          generalize W2.alloc (.cells #[.string ⟨yl.toArray⟩] 9) = W3 at HS Hx3 hx5 ⊢
          generalize W2.heap.size = b5 at hx5 ⊢
          have Hx5 := hx5
          refine hK.out _ _ trivial (fun hHeld => ?_)
          clear hK K hx5
          (try simp only [List.getElem_toArray, List.getElem_cons_zero, List.getElem_cons_succ, Act.put, List.setIfInBounds_toArray, List.set_cons_zero, List.set_cons_succ])
          refine wpAnyH_ready (rs := [6]) (by kernel_rfl) (by simp) ?_
          refine AllReadyH.cons rfl (fun K hK => ?_) AllReadyH.nil
          have hlt5 := Hx5.lt
          have hbs := HS.blk.lt
          have hl4 := HS.few
          refine step_append_any W3 (by rfl) (.tmp 23) (.tmp 27) 29 (by rfl) (b + 1) 9 i0 (.string ⟨#[]⟩) 1 16 Tryz.underlying29 hi hz0 hz1 hz2 rfl (by decide) (.slice ra red.length rc) red.length (strVs red) (by rfl) HS.own (b5 + 1) (some ⟨b5, 0, none⟩) 1 1 [.string ⟨yl.toArray⟩] (by rfl) (reads_blk (us := [.string ⟨yl.toArray⟩]) Hx5.blk) (by simp [Value.oneCell']) (by unfold maxLen; omega) (by omega) (by omega) ?_
          intro v' W4 hown hga hat
          have hown2 := str_next (l' := red ++ [yl]) hown rfl rfl
          obtain ⟨A7, c7, rfl, _, _⟩ := own_reads hown2 (Nat.le_refl _)
          have HA := HS.app hga
          refine hK.out _ _ trivial (fun hHeld => ?_)
          clear hK K hown hga hat
          (try simp only [List.getElem_toArray, List.getElem_cons_zero, List.getElem_cons_succ, Act.put, List.setIfInBounds_toArray, List.set_cons_zero, List.set_cons_succ])
          first | (refine wpAnyH_take (i := 7) (v := _) rfl (by kernel_rfl) (by kernel_rfl) (by kernel_rfl) (fun _ _ _ h => h) (Or.inr ⟨?_, rfl⟩) (by assumption) ?_; rfl) | (refine wpAnyH_take (i := 7) (v := ?_) rfl (by kernel_rfl) (by kernel_rfl) (by kernel_rfl) (fun _ _ _ h => h) (Or.inl ⟨?_, ?_⟩) (by assumption) ?_; rotate_left; rfl; focus (intro w hSw; (try dsimp only at hSw); go_simp; all_goals (with_reducible rfl)))
          (try simp only [List.getElem_toArray, List.getElem_cons_zero, List.getElem_cons_succ, Act.put, List.setIfInBounds_toArray, List.set_cons_zero, List.set_cons_succ])
          refine wpAnyH_ready (rs := [8]) (by kernel_rfl) (by simp) ?_
          refine AllReadyH.cons rfl (fun K hK => ?_) AllReadyH.nil
          have hf2 := HA.1.frozen 2
          have hblt := HA.1.lt
          have hcx := (boxC HA.1).2.2.1
          go_simp
          refine hK.out _ _ trivial (fun hHeld => ?_)
          clear hK K hf2 hblt hcx
          have HF := App.set HA hown2 hy hr3
          rw [List.length_append, List.length_singleton] at HF
          (try simp only [List.getElem_toArray, List.getElem_cons_zero, List.getElem_cons_succ, Act.put, List.setIfInBounds_toArray, List.set_cons_zero, List.set_cons_succ])
          refine wpAnyH_done (by kernel_rfl) ?_ _
          clear hHeld
          go_wp2_with fail
          exact ⟨⟨m, k, red ++ [yl], A7, c7, by go_num, by rw [List.length_append, List.length_singleton]; omega, HF⟩, by simp [intOf]; try omega⟩
        · go_simp
          refine (pick_walk zs g k _ 6 (b3 + 1) rowsC2 (by decide) (by decide) (by decide) W1 HS.tape (reads_blk (us := rowsC2.map Value.string) Hx3.blk) Hx3.lt Hx3.ne).mono ?_
          obtain ⟨yl, ex, hy⟩ := rowsC2_ok zs k
          rw [ex]
          rintro _ W2 ⟨rfl, ht, hg, -⟩
          generalize nextA zs k rowsC2.length = k at ht
          clear ex
          go_simp
          replace Hx3 := Hx3.call hg
          replace HS := HS.call ht hg
          refine hK.out _ _ trivial (fun hHeld => ?_)
          clear hK K ht hg
          (try simp only [List.getElem_toArray, List.getElem_cons_zero, List.getElem_cons_succ, Act.put, List.setIfInBounds_toArray, List.set_cons_zero, List.set_cons_succ])
          refine wpAnyH_ready (rs := [1, 5]) (by kernel_rfl) (by simp) ?_
          refine AllReadyH.cons rfl (fun K hK => ?_) ( AllReadyH.cons rfl (fun K hK => ?_) AllReadyH.nil)
          · have hc2 := HS.box.2.2.1
            have hblt := HS.blk.lt
            go_simp
            refine hK.out _ _ trivial (fun hHeld => ?_)
            clear hK K hc2 hblt
            (try simp only [List.getElem_toArray, List.getElem_cons_zero, List.getElem_cons_succ, Act.put, List.setIfInBounds_toArray, List.set_cons_zero, List.set_cons_succ])
            refine wpAnyH_ready (rs := [5]) (by kernel_rfl) (by simp) ?_
            refine AllReadyH.cons rfl (fun K hK => ?_) AllReadyH.nil
            go_simp
            have hx5 := HS.made 9 #[.string ⟨yl.toArray⟩]
            replace Hx3 := Hx3.alloc (.cells #[.string ⟨yl.toArray⟩] 9)
            replace HS := HS.alloc (.cells #[.string ⟨yl.toArray⟩] 9)
            generalize W2.alloc (.cells #[.string ⟨yl.toArray⟩] 9) = W3 at HS Hx3 hx5 ⊢
            generalize W2.heap.size = b5 at hx5 ⊢
            have Hx5 := hx5
            refine hK.out _ _ trivial (fun hHeld => ?_)
            clear hK K hx5
            (try simp only [List.getElem_toArray, List.getElem_cons_zero, List.getElem_cons_succ, Act.put, List.setIfInBounds_toArray, List.set_cons_zero, List.set_cons_succ])
            refine wpAnyH_ready (rs := [6]) (by kernel_rfl) (by simp) ?_
            refine AllReadyH.cons rfl (fun K hK => ?_) AllReadyH.nil
            have hlt5 := Hx5.lt
            have hbs := HS.blk.lt
            have hl4 := HS.few
            refine step_append_any W3 (by rfl) (.tmp 23) (.tmp 27) 29 (by rfl) (b + 1) 9 i0 (.string ⟨#[]⟩) 1 16 Tryz.underlying29 hi hz0 hz1 hz2 rfl (by decide) (.slice ra red.length rc) red.length (strVs red) (by rfl) HS.own (b5 + 1) (some ⟨b5, 0, none⟩) 1 1 [.string ⟨yl.toArray⟩] (by rfl) (reads_blk (us := [.string ⟨yl.toArray⟩]) Hx5.blk) (by simp [Value.oneCell']) (by unfold maxLen; omega) (by omega) (by omega) ?_
            intro v' W4 hown hga hat
            have hown2 := str_next (l' := red ++ [yl]) hown rfl rfl
            obtain ⟨A7, c7, rfl, _, _⟩ := own_reads hown2 (Nat.le_refl _)
            have HA := HS.app hga
            refine hK.out _ _ trivial (fun hHeld => ?_)
            clear hK K hown hga hat
            (try simp only [List.getElem_toArray, List.getElem_cons_zero, List.getElem_cons_succ, Act.put, List.setIfInBounds_toArray, List.set_cons_zero, List.set_cons_succ])
            first | (refine wpAnyH_take (i := 7) (v := _) rfl (by kernel_rfl) (by kernel_rfl) (by kernel_rfl) (fun _ _ _ h => h) (Or.inr ⟨?_, rfl⟩) (by assumption) ?_; rfl) | (refine wpAnyH_take (i := 7) (v := ?_) rfl (by kernel_rfl) (by kernel_rfl) (by kernel_rfl) (fun _ _ _ h => h) (Or.inl ⟨?_, ?_⟩) (by assumption) ?_; rotate_left; rfl; focus (intro w hSw; (try dsimp only at hSw); go_simp; all_goals (with_reducible rfl)))
            (try simp only [List.getElem_toArray, List.getElem_cons_zero, List.getElem_cons_succ, Act.put, List.setIfInBounds_toArray, List.set_cons_zero, List.set_cons_succ])
            refine wpAnyH_ready (rs := [8]) (by kernel_rfl) (by simp) ?_
            refine AllReadyH.cons rfl (fun K hK => ?_) AllReadyH.nil
            have hf2 := HA.1.frozen 2
            have hblt := HA.1.lt
            have hcx := (boxC HA.1).2.2.1
            go_simp
            refine hK.out _ _ trivial (fun hHeld => ?_)
            clear hK K hf2 hblt hcx
            have HF := App.set HA hown2 hy hr3
            rw [List.length_append, List.length_singleton] at HF
            (try simp only [List.getElem_toArray, List.getElem_cons_zero, List.getElem_cons_succ, Act.put, List.setIfInBounds_toArray, List.set_cons_zero, List.set_cons_succ])
            refine wpAnyH_done (by kernel_rfl) ?_ _
            clear hHeld
            go_wp2_with fail
            exact ⟨⟨m, k, red ++ [yl], A7, c7, by go_num, by rw [List.length_append, List.length_singleton]; omega, HF⟩, by simp [intOf]; try omega⟩
          · go_simp
            have hx5 := HS.made 9 #[.string ⟨yl.toArray⟩]
            replace Hx3 := Hx3.alloc (.cells #[.string ⟨yl.toArray⟩] 9)
            replace HS := HS.alloc (.cells #[.string ⟨yl.toArray⟩] 9)
            generalize W2.alloc (.cells #[.string ⟨yl.toArray⟩] 9) = W3 at HS Hx3 hx5 ⊢
            generalize W2.heap.size = b5 at hx5 ⊢
            have Hx5 := hx5
            refine hK.out _ _ trivial (fun hHeld => ?_)
            clear hK K hx5
            (try simp only [List.getElem_toArray, List.getElem_cons_zero, List.getElem_cons_succ, Act.put, List.setIfInBounds_toArray, List.set_cons_zero, List.set_cons_succ])
            refine wpAnyH_ready (rs := [1]) (by kernel_rfl) (by simp) ?_
            refine AllReadyH.cons rfl (fun K hK => ?_) AllReadyH.nil
            have hc2 := HS.box.2.2.1
            have hblt := HS.blk.lt
            go_simp
            refine hK.out _ _ trivial (fun hHeld => ?_)
            clear hK K hc2 hblt
            (try simp only [List.getElem_toArray, List.getElem_cons_zero, List.getElem_cons_succ, Act.put, List.setIfInBounds_toArray, List.set_cons_zero, List.set_cons_succ])
            refine wpAnyH_ready (rs := [6]) (by kernel_rfl) (by simp) ?_
            refine AllReadyH.cons rfl (fun K hK => ?_) AllReadyH.nil
            have hlt5 := Hx5.lt
            have hbs := HS.blk.lt
            have hl4 := HS.few
            refine step_append_any W3 (by rfl) (.tmp 23) (.tmp 27) 29 (by rfl) (b + 1) 9 i0 (.string ⟨#[]⟩) 1 16 Tryz.underlying29 hi hz0 hz1 hz2 rfl (by decide) (.slice ra red.length rc) red.length (strVs red) (by rfl) HS.own (b5 + 1) (some ⟨b5, 0, none⟩) 1 1 [.string ⟨yl.toArray⟩] (by rfl) (reads_blk (us := [.string ⟨yl.toArray⟩]) Hx5.blk) (by simp [Value.oneCell']) (by unfold maxLen; omega) (by omega) (by omega) ?_
            intro v' W4 hown hga hat
            have hown2 := str_next (l' := red ++ [yl]) hown rfl rfl
            obtain ⟨A7, c7, rfl, _, _⟩ := own_reads hown2 (Nat.le_refl _)
            have HA := HS.app hga
            refine hK.out _ _ trivial (fun hHeld => ?_)
            clear hK K hown hga hat
            (try simp only [List.getElem_toArray, List.getElem_cons_zero, List.getElem_cons_succ, Act.put, List.setIfInBounds_toArray, List.set_cons_zero, List.set_cons_succ])
            first | (refine wpAnyH_take (i := 7) (v := _) rfl (by kernel_rfl) (by kernel_rfl) (by kernel_rfl) (fun _ _ _ h => h) (Or.inr ⟨?_, rfl⟩) (by assumption) ?_; rfl) | (refine wpAnyH_take (i := 7) (v := ?_) rfl (by kernel_rfl) (by kernel_rfl) (by kernel_rfl) (fun _ _ _ h => h) (Or.inl ⟨?_, ?_⟩) (by assumption) ?_; rotate_left; rfl; focus (intro w hSw; (try dsimp only at hSw); go_simp; all_goals (with_reducible rfl)))
            (try simp only [List.getElem_toArray, List.getElem_cons_zero, List.getElem_cons_succ, Act.put, List.setIfInBounds_toArray, List.set_cons_zero, List.set_cons_succ])
            refine wpAnyH_ready (rs := [8]) (by kernel_rfl) (by simp) ?_
            refine AllReadyH.cons rfl (fun K hK => ?_) AllReadyH.nil
            have hf2 := HA.1.frozen 2
            have hblt := HA.1.lt
            have hcx := (boxC HA.1).2.2.1
            go_simp
            refine hK.out _ _ trivial (fun hHeld => ?_)
            clear hK K hf2 hblt hcx
            have HF := App.set HA hown2 hy hr3
            rw [List.length_append, List.length_singleton] at HF
            (try simp only [List.getElem_toArray, List.getElem_cons_zero, List.getElem_cons_succ, Act.put, List.setIfInBounds_toArray, List.set_cons_zero, List.set_cons_succ])
            refine wpAnyH_done (by kernel_rfl) ?_ _
            clear hHeld
            go_wp2_with fail
            exact ⟨⟨m, k, red ++ [yl], A7, c7, by go_num, by rw [List.length_append, List.length_singleton]; omega, HF⟩, by simp [intOf]; try omega⟩
end Go.Proofs.YtekbdfnbnpmclaaGreatDoor
