/- countersignlaw17.within, Few, Clients. No condition of its own. -/
import Derived.Test.YtekbdfnbnpmclaaGreatDoorCg
set_option linter.unusedVariables false
set_option linter.unusedSimpArgs false
set_option maxRecDepth 20000
namespace Go.Proofs.YtekbdfnbnpmclaaGreatDoor
open Go.RowKit Pc
theorem OffC.short {f : Cl} (h : OffC f) : CShort f := by
  obtain ⟨h1, h2, h3, h4, h5⟩ := h
  exact ⟨⟨by omega, fun p hp => by have := h5 p hp; omega⟩, by omega, by omega⟩
/-- redirects in rows of their own -/
def RedsIn (B : Nat) (W : World) (cs : List Cl) : Prop := ∀ f ∈ cs, W.ownsRow B 9 1 (.slice f.ra f.red.length f.rc) f.red.length (strVs f.red)
/-- clients off the tape come back, a row of their own -/
def ClientsR (most : Nat) (w : World) (e : Ending) (w' : World) : Prop :=
  ∃ (cs : List Cl) (A : Option Addr) (c : Nat), e = .returned (.slice A cs.length c) ∧ cs.length ≤ most ∧ (∀ f ∈ cs, OffC f) ∧ ClsAt w' A c cs ∧ w'.ownsRow w.heap.size 31 4 (.slice A cs.length c) cs.length (cCells cs) ∧ RedsIn w.heap.size w' cs ∧ Below w.heap.size w w'
theorem info_cl : (Tryz.prog.info? 31).map (fun i => (i.zero, i.size, i.bytes)) = some (some (.agg clZ.arr), 4, 64) := by kernel_rfl
theorem strsAt_of {W : World} {B : Nat} {ra : Option Addr} {rc : Nat} {red : List (List UInt8)} (h : W.ownsRow B 9 1 (.slice ra red.length rc) red.length (strVs red)) : StrsAt W ra rc red := by
  obtain ⟨A, c, e, hs⟩ := StrsAt.own h
  injection e with e1 _ e2
  subst e1 e2
  exact hs
theorem own_own {w : World} {B B' n n' size size' : Nat} {e e' : TypeId} {v v' : Value} {xs xs' : List Value} (h : w.ownsRow B e size v n xs) (h' : w.ownsRow B' e' size' v' n' xs') (hne : e ≠ e') : v.ownBlock = none ∨ v.ownBlock ≠ v'.ownBlock := by
  rcases h.2 with ⟨rfl, _⟩ | ⟨g, cap, cur, rfl, _, hh, _⟩
  · exact .inl rfl
  · right
    intro he
    rcases h'.2 with ⟨rfl, _⟩ | ⟨g', cap', cur', rfl, _, hh', _⟩
    · simp [Value.ownBlock] at he
    · have : g = g' := by simpa [Value.ownBlock] using he
      subst this
      exact Blk.ne_ (t := e) hh hh' hne rfl
theorem fold_cl (f : Cl) : Array.foldl (fun (cs : Array Value) (x : Value × Nat) => cs.setIfInBounds x.snd x.fst) #[.string ⟨#[]⟩, .int .i64 0, .slice none 0 0, .string ⟨#[]⟩] (f.arr.zipIdx) 0 f.arr.size = f.arr := by kernel_rfl
theorem fold_cl4 (f : Cl) : Array.foldl (fun (cs : Array Value) (x : Value × Nat) => cs.setIfInBounds x.snd x.fst) #[.string ⟨#[]⟩, .int .i64 0, .slice none 0 0, .string ⟨#[]⟩] (f.arr.zipIdx) 0 4 = f.arr := by kernel_rfl
theorem blk_reads {W : World} {b : Nat} {t : TypeId} {us : List Value} (h : Blk W b t us.toArray) : Reads W (b + 1) us.length (some ⟨b, 0, none⟩) 1 us := by
  refine ⟨by simp, fun _ => ⟨⟨b, 0, none⟩, rfl, Nat.lt_succ_self b, fun j u hu => ?_⟩⟩
  rw [show ((⟨b, 0, none⟩ : Addr).add j) = ⟨b, j, none⟩ by unfold Addr.add; split <;> simp_all, h.cell j]
  simpa using hu
set_option maxHeartbeats 8000000 in
theorem clients_walk (zs : List Int) (A : Option Addr) (c : Nat) (most : Nat) (hmost : most ≤ 1000) (w : World) (hr : IntsIn w A c zs) :
    Calls Tryz.prog 6 #[.slice A zs.length c, .int .i64 most] w (ClientsR most w) := by
  obtain ⟨i0, hi, hz0, hz1, hz2⟩ := infoS4 info_cl
  have hT := S16.tape_new hr
  have hb1 := (Below.refl w.heap.size w).alloc (Nat.le_refl _) (.cells #[.slice A zs.length c, .int .i64 0] 41)
  have HT := Lib.hid hT
  have HB := Lib.hid hb1
  have HO := Lib.hid (World.ownsRow_nil (w.alloc (.cells #[.slice A zs.length c, .int .i64 0] 41)) (w.heap.size + 1) 31 4)
  have HR : Hid (RedsIn (w.heap.size + 1) (w.alloc (.cells #[.slice A zs.length c, .int .i64 0] 41)) []) := fun f hf => by cases hf
  clear hT hb1 hr
  go_enter Tryz.func6, Tryz.ntmps6
  go_wp2_with fail
  go_loopw [6, 7] (fun sv iv wr => ∃ (i k : Nat) (cs : List Cl) (A2 : Option Addr) (c2 : Nat), i ≤ most ∧ iv = .int .i64 i ∧ cs.length = i ∧ sv = .slice A2 cs.length c2 ∧ (∀ f ∈ cs, OffC f) ∧ Hid (TapeAt wr w.heap.size zs k) ∧ Hid (Below w.heap.size w wr) ∧ Hid (wr.ownsRow (w.heap.size + 1) 31 4 (.slice A2 cs.length c2) cs.length (cCells cs)) ∧ Hid (RedsIn (w.heap.size + 1) wr cs)) (fun _ iv _ => most - (intOf iv).toNat)
  case atStart => exact ⟨0, 0, [], none, 0, by omega, rfl, rfl, rfl, fun f hf => (by cases hf), HT, HB, HO, HR⟩
  case round =>
    clear HT HB HO HR
    obtain ⟨i, k, cs, A2, c2, hi2, rfl, hlen, rfl, hoff, HT, HB, HO, HR⟩ := hrel
    subst hlen
    have cm := Lib.hid (more_walk zs w.heap.size k wr HT.out)
    by_cases hlt : cs.length < most
    case neg =>
      have hA : ClsAt wr A2 c2 cs := by
        obtain ⟨A', c', e, h⟩ := ClsAt.own HO.out (fun f hf => strsAt_of (HR.out f hf))
        injection e with e1 _ e2
        subst e1 e2
        exact h
      have HA := Lib.hid hA
      clear hA cm
      go_wp2_with fail
      go_ret
      exact ⟨cs, A2, c2, rfl, by omega, hoff, HA.out, World.ownsRow.mono HO.out (by omega), fun f hf => World.ownsRow.mono (HR.out f hf) (by omega), HB.out⟩
    obtain ⟨q, hq⟩ : ∃ q, decide (k < zs.length) = q := ⟨_, rfl⟩
    rw [hq] at cm
    cases q
    case false =>
      have hA : ClsAt wr A2 c2 cs := by
        obtain ⟨A', c', e, h⟩ := ClsAt.own HO.out (fun f hf => strsAt_of (HR.out f hf))
        injection e with e1 _ e2
        subst e1 e2
        exact h
      have HA := Lib.hid hA
      clear hA hq
      go_wp2_with fail
      refine cm.out.mono ?_
      rintro _ w1 ⟨rfl, n1, rfl⟩
      go_wp2_with fail
      go_ret
      exact ⟨cs, A2, c2, rfl, by omega, hoff, HA.out.drewN n1, World.ownsRow.mono (show (wr.drewN n1).ownsRow _ _ _ _ _ _ from HO.out) (by omega), fun f hf => World.ownsRow.mono (show (wr.drewN n1).ownsRow _ _ _ _ _ _ from HR.out f hf) (by omega), below_drewN HB.out n1⟩
    case true =>
      clear hq
      go_wp2_with fail
      refine cm.out.mono ?_
      rintro _ w1 ⟨rfl, n1, rfl⟩
      replace HT := Lib.hid (HT.out.drewN n1)
      replace HB := Lib.hid (below_drewN HB.out n1)
      replace HO := Lib.hid (show (wr.drewN n1).ownsRow (w.heap.size + 1) 31 4 (.slice A2 cs.length c2) cs.length (cCells cs) from HO.out)
      replace HR := Lib.hid (show RedsIn (w.heap.size + 1) (wr.drewN n1) cs from HR.out)
      generalize wr.drewN n1 = w1 at HT HB HO HR ⊢
      have cc := Lib.hid (client_walk zs w.heap.size k w1 HT.out)
      have hws := HB.out.size
      clear cm
      go_wp2_with fail
      refine cc.out.mono ?_
      rintro _ w2 ⟨f, k2, rfl, hf, hown, hT2, hg2⟩
      have hlt2 := HT.out.lt
      have HT2 := Lib.hid hT2
      have HB2 := Lib.hid (HB.out.grown hg2 hws (fun r e => by injection e with e; omega))
      have HO2 := Lib.hid (own_only HO.out hg2 (by omega))
      have HR2 : Hid (RedsIn (w.heap.size + 1) w2 (cs ++ [f])) := by
        show RedsIn _ _ _
        intro x hx
        rcases List.mem_append.1 hx with h | h
        · exact own_only (HR.out x h) hg2 (by omega)
        · rw [List.mem_singleton] at h; rw [h]; exact World.ownsRow.mono hown (by omega)
      have hoff2 : ∀ x ∈ cs ++ [f], OffC x := by
        intro x hx
        rcases List.mem_append.1 hx with h | h
        · exact hoff x h
        · rw [List.mem_singleton] at h; rw [h]; exact hf
      have hs2 := HB2.out.size
      have hrd := blk_reads ((Blk.new w2 31 f.arr))
      have hsz4 : f.arr.size = 4 := rfl
      clear hown hT2 hg2 cc
      go_wp2_with (at_builtin; go_loud ((first | rw [fold_cl] | rw [fold_cl4] | skip); refine wpList_append_any (w2.alloc (.cells f.arr 31)) rfl (.tmp 20) (.tmp 23) 22 rfl (w.heap.size + 1) 31 i0 (.agg clZ.arr) 4 64 Tryz.underlying22 hi hz0 hz1 hz2 rfl (by decide) (.slice A2 cs.length c2) cs.length (cCells cs) rfl (HO2.out.alloc _) (w2.heap.size + 1) _ 1 1 f.cells rfl hrd (fun u hu => cCells_ones [f] u (by simpa [cCells] using hu)) (by unfold maxLen; omega) (by omega) (by simp; omega) ?_); intro v' w6 hown6 hg6 hat6)
      clear hsz4
      have hown7 := cl_next (l' := cs ++ [f]) hown6 rfl rfl
      obtain ⟨A7, c7, rfl, _, _⟩ := own_reads hown7 (Nat.le_refl _)
      have hO := HO2.out.alloc (.cells f.arr 31)
      have hOlt := hO.lt
      have HT7 := Lib.hid ((HT2.out.grown (only_alloc (only_refl w2 none) (.cells f.arr 31)) (fun r e => by cases e)).grown hg6 (fun r e => by have := hOlt r e; omega))
      have HB7 := Lib.hid ((HB2.out.alloc HB2.out.size (.cells f.arr 31)).grown hg6 (by have := HB2.out.size; simp; omega) (fun r e => by have := hOlt r e; omega))
      have HR7 : Hid (RedsIn (w.heap.size + 1) w6 (cs ++ [f])) := by
        show RedsIn _ _ _
        intro x hx
        have h1 := (HR2.out x hx).alloc (.cells f.arr 31)
        exact h1.kept hg6 (own_own h1 hO (by decide))
      have HO7 := Lib.hid hown7
      have hl7 : (cs ++ [f]).length = cs.length + 1 := by rw [List.length_append, List.length_singleton]
      clear hown6 hown7 hg6 hat6 hO hOlt hrd HT2 HB2 HO2 HR2 HT HB HO HR
      go_wp2_with fail
      exact ⟨⟨cs.length + 1, k2, cs ++ [f], A7, c7, by omega, by go_num, hl7, by rw [List.length_append, List.length_singleton], hoff2, HT7, HB7, HO7, HR7⟩, by simp [intOf]; omega⟩
theorem take_add {α : Type} (l : List α) (k : Nat) (x : α) (h : l[k]? = some x) {P : α → Prop} (h1 : ∀ y ∈ l.take k, P y) (h2 : P x) : ∀ y ∈ l.take (k + 1), P y := by
  rw [take_snoc l k x h]
  intro y hy
  rcases List.mem_append.1 hy with h3 | h3
  · exact h1 y h3
  · rw [List.mem_singleton] at h3; rw [h3]; exact h2
theorem take_all {α : Type} {l : List α} {P : α → Prop} (h : ∀ y ∈ l.take l.length, P y) : ∀ y ∈ l, P y := by rwa [List.take_length] at h
def FewR (cs : List Cl) (w : World) (e : Ending) (w' : World) : Prop := ∃ b : Bool, e = .returned (.bool b) ∧ (b = true → ClsShort cs) ∧ Below w.heap.size w w'
set_option maxHeartbeats 8000000 in
theorem few_walk (cs : List Cl) (A : Option Addr) (c : Nat) (w : World) (hr : ClsAt w A c cs) :
    Calls Tryz.prog 5 #[.slice A cs.length c] w (FewR cs w) := by
  have HC := Lib.hid hr
  have hcl := hr.1
  clear hr
  go_enter Tryz.func5, Tryz.ntmps5
  go_wp2_with fail
  go_loopw [3, 4] (fun mv iv wr => ∃ i m : Nat, i ≤ cs.length ∧ i ≤ m ∧ m ≤ 40000 ∧ iv = .int .i64 i ∧ mv = .int .i64 m ∧ Hid (m < 5000 → ∀ f ∈ cs.take i, CShort f) ∧ Hid (Below w.heap.size w wr)) (fun _ iv _ => cs.length - (intOf iv).toNat)
  case atStart => exact ⟨0, 0, by omega, by omega, by omega, rfl, rfl, fun _ f hf => (by cases hf), Below.refl _ _⟩
  case round =>
    obtain ⟨i, m, hi, him, hm, rfl, rfl, HS, HB⟩ := hrel
    by_cases hcond : i < cs.length ∧ m < 5000
    · obtain ⟨hlt, hm5⟩ := hcond
      have hR := HC.out.below HB.out
      obtain ⟨ad, rfl⟩ : ∃ ad, A = some ad := by obtain ⟨ad, h, _⟩ := hR.2.1.2 (by omega); exact ⟨ad, h⟩
      obtain ⟨f, hfk⟩ : ∃ f, cs[i]? = some f := ⟨_, List.getElem?_eq_getElem hlt⟩
      have h4 := cl_four hR.2.1 hfk
      have hred := hR.2.2 f (List.mem_of_getElem? hfk)
      have hlt4 : (ad.add (i * 4)).block < wr.heap.size := by obtain ⟨ad2, e2, h2, _⟩ := hR.2.1.2 (by omega); injection e2 with e2; subst e2; rw [block_of_add]; exact h2
      have HRed := Lib.hid hred
      have HF := Lib.hid hfk
      have H4 := Lib.hid h4
      have hS0 : wr.drew.cell? (ad.add (i * 4)) = some (.string ⟨f.id.toArray⟩) ∧ wr.drew.cell? ⟨(ad.add (i * 4)).block, (ad.add (i * 4)).off + 3, none⟩ = some (.string ⟨f.sc.toArray⟩) := ⟨h4.1, h4.2.2.2⟩
      have hsn := size_mks f.id
      have hsv := size_mks f.sc
      have hd1 : decide ((i : Int) < (cs.length : Int)) = true := by simp; omega
      have hd2 : decide ((m : Int) < (5000 : Int)) = true := by simp; omega
      have HM5 := Lib.hid hm5
      clear hfk h4 hR hred hm5
      go_wp2_with fail
      refine wp_region_held_drew (S := fun W => W.cell? (ad.add (i * 4)) = some (.string ⟨f.id.toArray⟩) ∧ W.cell? ⟨(ad.add (i * 4)).block, (ad.add (i * 4)).off + 3, none⟩ = some (.string ⟨f.sc.toArray⟩)) (by kernel_rfl) hS0 (fun hHeld => ?_)
      first | (refine wpAnyH_take (i := 0) (v := _) rfl (by kernel_rfl) (by kernel_rfl) (by kernel_rfl) (fun _ _ _ h => h) (Or.inr ⟨?_, rfl⟩) (by assumption) ?_; rfl) | (refine wpAnyH_take (i := 0) (v := ?_) rfl (by kernel_rfl) (by kernel_rfl) (by kernel_rfl) (fun _ _ _ h => h) (Or.inl ⟨?_, ?_⟩) (by assumption) ?_; rotate_left; rfl; focus (intro w hSw; (try dsimp only at hSw); go_simp; all_goals (with_reducible rfl)))
      (try simp only [List.getElem_toArray, List.getElem_cons_zero, List.getElem_cons_succ, Act.put, List.setIfInBounds_toArray, List.set_cons_zero, List.set_cons_succ])
      first | (refine wpAnyH_take (i := 1) (v := _) rfl (by kernel_rfl) (by kernel_rfl) (by kernel_rfl) (fun _ _ _ h => h) (Or.inr ⟨?_, rfl⟩) (by assumption) ?_; rfl) | (refine wpAnyH_take (i := 1) (v := ?_) rfl (by kernel_rfl) (by kernel_rfl) (by kernel_rfl) (fun _ _ _ h => h) (Or.inl ⟨?_, ?_⟩) (by assumption) ?_; rotate_left; rfl; focus (intro w hSw; (try dsimp only at hSw); go_simp; all_goals (with_reducible rfl)))
      (try simp only [List.getElem_toArray, List.getElem_cons_zero, List.getElem_cons_succ, Act.put, List.setIfInBounds_toArray, List.set_cons_zero, List.set_cons_succ])
      first | (refine wpAnyH_take (i := 2) (v := _) rfl (by kernel_rfl) (by kernel_rfl) (by kernel_rfl) (fun _ _ _ h => h) (Or.inr ⟨?_, rfl⟩) (by assumption) ?_; rfl) | (refine wpAnyH_take (i := 2) (v := ?_) rfl (by kernel_rfl) (by kernel_rfl) (by kernel_rfl) (fun _ _ _ h => h) (Or.inl ⟨?_, ?_⟩) (by assumption) ?_; rotate_left; rfl; focus (intro w hSw; (try dsimp only at hSw); go_simp; all_goals (with_reducible rfl)))
      (try simp only [List.getElem_toArray, List.getElem_cons_zero, List.getElem_cons_succ, Act.put, List.setIfInBounds_toArray, List.set_cons_zero, List.set_cons_succ])
      first | (refine wpAnyH_take (i := 3) (v := _) rfl (by kernel_rfl) (by kernel_rfl) (by kernel_rfl) (fun _ _ _ h => h) (Or.inr ⟨?_, rfl⟩) (by assumption) ?_; rfl) | (refine wpAnyH_take (i := 3) (v := ?_) rfl (by kernel_rfl) (by kernel_rfl) (by kernel_rfl) (fun _ _ _ h => h) (Or.inl ⟨?_, ?_⟩) (by assumption) ?_; rotate_left; rfl; focus (intro w hSw; (try dsimp only at hSw); go_simp; all_goals (with_reducible rfl)))
      (try simp only [List.getElem_toArray, List.getElem_cons_zero, List.getElem_cons_succ, Act.put, List.setIfInBounds_toArray, List.set_cons_zero, List.set_cons_succ])
      first | (refine wpAnyH_take (i := 4) (v := _) rfl (by kernel_rfl) (by kernel_rfl) (by kernel_rfl) (fun _ _ _ h => h) (Or.inr ⟨?_, rfl⟩) (by assumption) ?_; rfl) | (refine wpAnyH_take (i := 4) (v := ?_) rfl (by kernel_rfl) (by kernel_rfl) (by kernel_rfl) (fun _ _ _ h => h) (Or.inl ⟨?_, ?_⟩) (by assumption) ?_; rotate_left; rfl; focus (intro w hSw; (try dsimp only at hSw); go_simp; all_goals (with_reducible rfl)))
      (try simp only [List.getElem_toArray, List.getElem_cons_zero, List.getElem_cons_succ, Act.put, List.setIfInBounds_toArray, List.set_cons_zero, List.set_cons_succ])
      first | (refine wpAnyH_take (i := 5) (v := _) rfl (by kernel_rfl) (by kernel_rfl) (by kernel_rfl) (fun _ _ _ h => h) (Or.inr ⟨?_, rfl⟩) (by assumption) ?_; rfl) | (refine wpAnyH_take (i := 5) (v := ?_) rfl (by kernel_rfl) (by kernel_rfl) (by kernel_rfl) (fun _ _ _ h => h) (Or.inl ⟨?_, ?_⟩) (by assumption) ?_; rotate_left; rfl; focus (intro w hSw; (try dsimp only at hSw); go_simp; all_goals (with_reducible rfl)))
      (try simp only [List.getElem_toArray, List.getElem_cons_zero, List.getElem_cons_succ, Act.put, List.setIfInBounds_toArray, List.set_cons_zero, List.set_cons_succ])
      first | (refine wpAnyH_take (i := 6) (v := _) rfl (by kernel_rfl) (by kernel_rfl) (by kernel_rfl) (fun _ _ _ h => h) (Or.inr ⟨?_, rfl⟩) (by assumption) ?_; rfl) | (refine wpAnyH_take (i := 6) (v := ?_) rfl (by kernel_rfl) (by kernel_rfl) (by kernel_rfl) (fun _ _ _ h => h) (Or.inl ⟨?_, ?_⟩) (by assumption) ?_; rotate_left; rfl; focus (intro w hSw; (try dsimp only at hSw); go_simp; all_goals (with_reducible rfl)))
      (try simp only [List.getElem_toArray, List.getElem_cons_zero, List.getElem_cons_succ, Act.put, List.setIfInBounds_toArray, List.set_cons_zero, List.set_cons_succ])
      first | (refine wpAnyH_take (i := 7) (v := _) rfl (by kernel_rfl) (by kernel_rfl) (by kernel_rfl) (fun _ _ _ h => h) (Or.inr ⟨?_, rfl⟩) (by assumption) ?_; rfl) | (refine wpAnyH_take (i := 7) (v := ?_) rfl (by kernel_rfl) (by kernel_rfl) (by kernel_rfl) (fun _ _ _ h => h) (Or.inl ⟨?_, ?_⟩) (by assumption) ?_; rotate_left; rfl; focus (intro w hSw; (try dsimp only at hSw); go_simp; all_goals (with_reducible rfl)))
      (try simp only [List.getElem_toArray, List.getElem_cons_zero, List.getElem_cons_succ, Act.put, List.setIfInBounds_toArray, List.set_cons_zero, List.set_cons_succ])
      first | (refine wpAnyH_take (i := 8) (v := _) rfl (by kernel_rfl) (by kernel_rfl) (by kernel_rfl) (fun _ _ _ h => h) (Or.inr ⟨?_, rfl⟩) (by assumption) ?_; rfl) | (refine wpAnyH_take (i := 8) (v := ?_) rfl (by kernel_rfl) (by kernel_rfl) (by kernel_rfl) (fun _ _ _ h => h) (Or.inl ⟨?_, ?_⟩) (by assumption) ?_; rotate_left; rfl; focus (intro w hSw; (try dsimp only at hSw); go_simp; all_goals (with_reducible rfl)))
      (try simp only [List.getElem_toArray, List.getElem_cons_zero, List.getElem_cons_succ, Act.put, List.setIfInBounds_toArray, List.set_cons_zero, List.set_cons_succ])
      first | (refine wpAnyH_take (i := 9) (v := _) rfl (by kernel_rfl) (by kernel_rfl) (by kernel_rfl) (fun _ _ _ h => h) (Or.inr ⟨?_, rfl⟩) (by assumption) ?_; rfl) | (refine wpAnyH_take (i := 9) (v := ?_) rfl (by kernel_rfl) (by kernel_rfl) (by kernel_rfl) (fun _ _ _ h => h) (Or.inl ⟨?_, ?_⟩) (by assumption) ?_; rotate_left; rfl; focus (intro w hSw; (try dsimp only at hSw); go_simp; all_goals (with_reducible rfl)))
      (try simp only [List.getElem_toArray, List.getElem_cons_zero, List.getElem_cons_succ, Act.put, List.setIfInBounds_toArray, List.set_cons_zero, List.set_cons_succ])
      first | (refine wpAnyH_take (i := 10) (v := _) rfl (by kernel_rfl) (by kernel_rfl) (by kernel_rfl) (fun _ _ _ h => h) (Or.inr ⟨?_, rfl⟩) (by assumption) ?_; rfl) | (refine wpAnyH_take (i := 10) (v := ?_) rfl (by kernel_rfl) (by kernel_rfl) (by kernel_rfl) (fun _ _ _ h => h) (Or.inl ⟨?_, ?_⟩) (by assumption) ?_; rotate_left; rfl; focus (intro w hSw; (try dsimp only at hSw); go_simp; all_goals (with_reducible rfl)))
      (try simp only [List.getElem_toArray, List.getElem_cons_zero, List.getElem_cons_succ, Act.put, List.setIfInBounds_toArray, List.set_cons_zero, List.set_cons_succ])
      first | (refine wpAnyH_take (i := 11) (v := _) rfl (by kernel_rfl) (by kernel_rfl) (by kernel_rfl) (fun _ _ _ h => h) (Or.inr ⟨?_, rfl⟩) (by assumption) ?_; rfl) | (refine wpAnyH_take (i := 11) (v := ?_) rfl (by kernel_rfl) (by kernel_rfl) (by kernel_rfl) (fun _ _ _ h => h) (Or.inl ⟨?_, ?_⟩) (by assumption) ?_; rotate_left; rfl; focus (intro w hSw; (try dsimp only at hSw); go_simp; all_goals (with_reducible rfl)))
      (try simp only [List.getElem_toArray, List.getElem_cons_zero, List.getElem_cons_succ, Act.put, List.setIfInBounds_toArray, List.set_cons_zero, List.set_cons_succ])
      first | (refine wpAnyH_take (i := 12) (v := _) rfl (by kernel_rfl) (by kernel_rfl) (by kernel_rfl) (fun _ _ _ h => h) (Or.inr ⟨?_, rfl⟩) (by assumption) ?_; rfl) | (refine wpAnyH_take (i := 12) (v := ?_) rfl (by kernel_rfl) (by kernel_rfl) (by kernel_rfl) (fun _ _ _ h => h) (Or.inl ⟨?_, ?_⟩) (by assumption) ?_; rotate_left; rfl; focus (intro w hSw; (try dsimp only at hSw); go_simp; all_goals (with_reducible rfl)))
      (try simp only [List.getElem_toArray, List.getElem_cons_zero, List.getElem_cons_succ, Act.put, List.setIfInBounds_toArray, List.set_cons_zero, List.set_cons_succ])
      first | (refine wpAnyH_take (i := 13) (v := _) rfl (by kernel_rfl) (by kernel_rfl) (by kernel_rfl) (fun _ _ _ h => h) (Or.inr ⟨?_, rfl⟩) (by assumption) ?_; rfl) | (refine wpAnyH_take (i := 13) (v := ?_) rfl (by kernel_rfl) (by kernel_rfl) (by kernel_rfl) (fun _ _ _ h => h) (Or.inl ⟨?_, ?_⟩) (by assumption) ?_; rotate_left; rfl; focus (intro w hSw; (try dsimp only at hSw); go_simp; all_goals (with_reducible rfl)))
      (try simp only [List.getElem_toArray, List.getElem_cons_zero, List.getElem_cons_succ, Act.put, List.setIfInBounds_toArray, List.set_cons_zero, List.set_cons_succ])
      first | (refine wpAnyH_take (i := 14) (v := _) rfl (by kernel_rfl) (by kernel_rfl) (by kernel_rfl) (fun _ _ _ h => h) (Or.inr ⟨?_, rfl⟩) (by assumption) ?_; rfl) | (refine wpAnyH_take (i := 14) (v := ?_) rfl (by kernel_rfl) (by kernel_rfl) (by kernel_rfl) (fun _ _ _ h => h) (Or.inl ⟨?_, ?_⟩) (by assumption) ?_; rotate_left; rfl; focus (intro w hSw; (try dsimp only at hSw); go_simp; all_goals (with_reducible rfl)))
      (try simp only [List.getElem_toArray, List.getElem_cons_zero, List.getElem_cons_succ, Act.put, List.setIfInBounds_toArray, List.set_cons_zero, List.set_cons_succ])
      first | (refine wpAnyH_take (i := 15) (v := _) rfl (by kernel_rfl) (by kernel_rfl) (by kernel_rfl) (fun _ _ _ h => h) (Or.inr ⟨?_, rfl⟩) (by assumption) ?_; rfl) | (refine wpAnyH_take (i := 15) (v := ?_) rfl (by kernel_rfl) (by kernel_rfl) (by kernel_rfl) (fun _ _ _ h => h) (Or.inl ⟨?_, ?_⟩) (by assumption) ?_; rotate_left; rfl; focus (intro w hSw; (try dsimp only at hSw); go_simp; all_goals (with_reducible rfl)))
      (try simp only [List.getElem_toArray, List.getElem_cons_zero, List.getElem_cons_succ, Act.put, List.setIfInBounds_toArray, List.set_cons_zero, List.set_cons_succ])
      first | (refine wpAnyH_take (i := 16) (v := _) rfl (by kernel_rfl) (by kernel_rfl) (by kernel_rfl) (fun _ _ _ h => h) (Or.inr ⟨?_, rfl⟩) (by assumption) ?_; rfl) | (refine wpAnyH_take (i := 16) (v := ?_) rfl (by kernel_rfl) (by kernel_rfl) (by kernel_rfl) (fun _ _ _ h => h) (Or.inl ⟨?_, ?_⟩) (by assumption) ?_; rotate_left; rfl; focus (intro w hSw; (try dsimp only at hSw); go_simp; all_goals (with_reducible rfl)))
      (try simp only [List.getElem_toArray, List.getElem_cons_zero, List.getElem_cons_succ, Act.put, List.setIfInBounds_toArray, List.set_cons_zero, List.set_cons_succ])
      first | (refine wpAnyH_take (i := 17) (v := _) rfl (by kernel_rfl) (by kernel_rfl) (by kernel_rfl) (fun _ _ _ h => h) (Or.inr ⟨?_, rfl⟩) (by assumption) ?_; rfl) | (refine wpAnyH_take (i := 17) (v := ?_) rfl (by kernel_rfl) (by kernel_rfl) (by kernel_rfl) (fun _ _ _ h => h) (Or.inl ⟨?_, ?_⟩) (by assumption) ?_; rotate_left; rfl; focus (intro w hSw; (try dsimp only at hSw); go_simp; all_goals (with_reducible rfl)))
      (try simp only [List.getElem_toArray, List.getElem_cons_zero, List.getElem_cons_succ, Act.put, List.setIfInBounds_toArray, List.set_cons_zero, List.set_cons_succ])
      first | (refine wpAnyH_take (i := 18) (v := _) rfl (by kernel_rfl) (by kernel_rfl) (by kernel_rfl) (fun _ _ _ h => h) (Or.inr ⟨?_, rfl⟩) (by assumption) ?_; rfl) | (refine wpAnyH_take (i := 18) (v := ?_) rfl (by kernel_rfl) (by kernel_rfl) (by kernel_rfl) (fun _ _ _ h => h) (Or.inl ⟨?_, ?_⟩) (by assumption) ?_; rotate_left; rfl; focus (intro w hSw; (try dsimp only at hSw); go_simp; all_goals (with_reducible rfl)))
      (try simp only [List.getElem_toArray, List.getElem_cons_zero, List.getElem_cons_succ, Act.put, List.setIfInBounds_toArray, List.set_cons_zero, List.set_cons_succ])
      refine wpAnyH_done (by kernel_rfl) ?_ _
      clear hHeld hS0
      have hm5 := HM5.out
      obtain ⟨na, hna⟩ : ∃ na : Nat, min f.id.length 9000 = na := ⟨_, rfl⟩
      obtain ⟨nb, hnb⟩ : ∃ nb : Nat, min f.sc.length 9000 = nb := ⟨_, rfl⟩
      have hna1 : min (f.id.length : Int) 9000 = (na : Int) := by omega
      have hnb1 : min (f.sc.length : Int) 9000 = (nb : Int) := by omega
      have hna2 : na ≤ 9000 := by omega
      have hnb2 : nb ≤ 9000 := by omega
      have e1 : IntKind.i64.wrap ((m : Int) + 1) = ((m + 1 : Nat) : Int) := by rw [IntKind.wrap_i64]; omega
      have e2 : IntKind.i64.wrap (((m + 1 : Nat) : Int) + (na : Int)) = ((m + 1 + na : Nat) : Int) := by rw [IntKind.wrap_i64]; omega
      have e3 : IntKind.i64.wrap (((m + 1 + na : Nat) : Int) + (nb : Int)) = ((m + 1 + na + nb : Nat) : Int) := by rw [IntKind.wrap_i64]; omega
      rw [hna1, hnb1, e1, e2, e3]
      clear e1 e2 e3 hna1 hnb1
      obtain ⟨m2, hm2⟩ : ∃ m2 : Nat, m + 1 + na + nb = m2 := ⟨_, rfl⟩
      rw [hm2]
      have hs0 := HS.out hm5
      have HM : Hid (m2 < 5000 → f.id.length ≤ 10000 ∧ f.sc.length ≤ 10000) := by
        show _ → _
        intro h
        constructor <;> omega
      have hms : m2 ≤ 23100 := by omega
      have him2 : i + 1 ≤ m2 := by omega
      have HMM : Hid (m ≤ m2) := by show m ≤ m2; omega
      have HS0 := Lib.hid hs0
      clear hs0 hna hnb hna2 hnb2 hm2 hsn hsv HS
      have HB1 := Lib.hid HB.out.drew
      have HRed1 := Lib.hid (show StrsAt wr.drew f.ra f.rc f.red from HRed.out.drewN 1)
      have hpc := HRed.out.1
      have hx2 : wr.drew.cell? ⟨(ad.add (i * 4)).block, (ad.add (i * 4)).off + 2, none⟩ = some (.slice f.ra f.red.length f.rc) := H4.out.2.2.1
      have hbl : (ad.add (i * 4)).block < wr.drew.heap.size := hlt4
      generalize wr.drew = w1 at HB1 HRed1 hx2 hbl ⊢
      clear HRed HB H4 hlt4
      go_wp2_with fail
      go_loopw [3, 5] (fun nv kv wq => ∃ k n : Nat, k ≤ f.red.length ∧ k ≤ n ∧ m2 ≤ n ∧ n ≤ 40000 ∧ kv = .int .i64 k ∧ nv = .int .i64 n ∧ Hid (n < 5000 → ∀ p ∈ f.red.take k, p.length ≤ 10000) ∧ w1 = wq) (fun _ kv _ => f.red.length - (intOf kv).toNat)
      case atStart => exact ⟨0, m2, by omega, by omega, by omega, by omega, rfl, rfl, fun _ p hp => (by cases hp), rfl⟩
      case round =>
        obtain ⟨k, n, hk, hkn, hmn, hn, rfl, rfl, HP, rfl⟩ := hrel
        by_cases hc2 : k < f.red.length ∧ n < 5000
        · obtain ⟨hk2, hn5⟩ := hc2
          obtain ⟨p, hpk⟩ : ∃ p, f.red[k]? = some p := ⟨_, List.getElem?_eq_getElem hk2⟩
          obtain ⟨ap, hA, hcell⟩ := HRed1.out.get hpk
          rw [hA] at hx2
          obtain ⟨np, hnp⟩ : ∃ np : Nat, min p.length 9000 = np := ⟨_, rfl⟩
          have hnp1 : min (p.length : Int) 9000 = (np : Int) := by omega
          have hnp2 : np ≤ 9000 := by omega
          have hsp := size_mks p
          have hd3 : decide ((k : Int) < (f.red.length : Int)) = true := by simp; omega
          have hd4 : decide ((n : Int) < (5000 : Int)) = true := by simp; omega
          have HPN : Hid (n + 1 + np < 5000 → ∀ q ∈ f.red.take (k + 1), q.length ≤ 10000) := by
            show _ → _
            intro h
            exact take_add _ _ _ hpk (HP.out hn5) (by omega)
          have HN5 := Lib.hid hn5
          clear hpk hnp hn5 HP
          go_wp2_with fail
          exact ⟨⟨k + 1, n + 1 + np, by omega, by omega, by omega, by have := HN5.out; omega, by go_num, by go_num, HPN, trivial⟩, by simp [intOf]; omega⟩
        · have HE : Hid (n < 5000 → ∀ g ∈ cs.take (i + 1), CShort g) := by
            show _ → _
            intro h
            have hk2 : k = f.red.length := by omega
            subst hk2
            exact take_add _ _ _ HF.out HS0.out ⟨⟨by omega, take_all (HP.out h)⟩, HM.out (by omega)⟩
          have hcase : ¬ k < f.red.length ∨ k < f.red.length ∧ ¬ n < 5000 := by omega
          have hin : i + 1 ≤ n := by omega
          clear HP hc2
          rcases hcase with h1 | ⟨h1, h2⟩
          · have hd3 : decide ((k : Int) < (f.red.length : Int)) = false := by simp; omega
            go_wp2_with fail
            exact ⟨⟨i + 1, n, by omega, hin, hn, by go_num, rfl, HE, HB1⟩, by simp [intOf]; omega⟩
          · have hd3 : decide ((k : Int) < (f.red.length : Int)) = true := by simp; omega
            have hd4 : decide ((n : Int) < (5000 : Int)) = false := by simp; omega
            clear h2
            go_wp2_with fail
            exact ⟨⟨i + 1, n, by omega, hin, hn, by go_num, rfl, HE, HB1⟩, by simp [intOf]; omega⟩
    · have hcase : ¬ i < cs.length ∨ i < cs.length ∧ ¬ m < 5000 := by omega
      have HE : Hid (m < 5000 → ClsShort cs) := by
        show _ → _
        intro h
        have hi2 : i = cs.length := by omega
        subst hi2
        exact ⟨by omega, take_all (HS.out h)⟩
      clear HS hcond
      obtain ⟨q, hq⟩ : ∃ q, decide ((m : Int) < (5000 : Int)) = q := ⟨_, rfl⟩
      have hq2 : q = true → m < 5000 := fun e => by rw [e] at hq; have := of_decide_eq_true hq; omega
      have HQ := Lib.hid hq2
      clear hq2
      rcases hcase with h1 | ⟨h1, h2⟩
      · have hd1 : decide ((i : Int) < (cs.length : Int)) = false := by simp; omega
        cases q
        all_goals
          go_wp2_with fail
          go_ret
          exact ⟨_, rfl, fun e => HE.out (by first | exact HQ.out e | exact HQ.out trivial | cases e), HB.out⟩
      · have hd1 : decide ((i : Int) < (cs.length : Int)) = true := by simp; omega
        have hd2 : decide ((m : Int) < (5000 : Int)) = false := by simp; omega
        cases q
        case true => exact absurd (HQ.out rfl) h2
        clear h2
        go_wp2_with fail
        go_ret
        exact ⟨_, rfl, fun e => HE.out (by first | exact HQ.out e | exact HQ.out trivial | cases e), HB.out⟩
end Go.Proofs.YtekbdfnbnpmclaaGreatDoor
