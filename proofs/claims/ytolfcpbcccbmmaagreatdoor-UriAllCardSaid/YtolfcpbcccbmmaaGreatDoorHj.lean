/- query.Parse, walked to formE. Condition: the table of digits is laid. -/
import Derived.Test.YtolfcpbcccbmmaaGreatDoorHi
import Derived.WalkMore
import Derived.Deep.Onto
import Derived.ScopeJumps
set_option linter.unusedVariables false
set_option linter.unusedSimpArgs false
set_option maxRecDepth 20000
namespace Go.Proofs.YtolfcpbcccbmmaaGreatDoor
open Go.RowKit Pc
theorem splitC_mem (c : UInt8) : ∀ (l : List UInt8) (p : List UInt8), p ∈ splitC c l → p.length ≤ l.length
  | [], p, h => by simp [splitC] at h; subst h; simp
  | x :: l, p, h => by
    have ih := splitC_mem c l
    rw [splitC] at h
    split at h
    · rcases List.mem_cons.1 h with rfl | h
      · simp
      · have := ih p h; simp; omega
    · split at h
      · simp at h; subst h; simp
      · rename_i q qs hq
        rcases List.mem_cons.1 h with rfl | h
        · have := ih q (by rw [hq]; simp); simp; omega
        · have := ih p (by rw [hq]; simp [h]); simp; omega
/-- a row of texts in memory -/
def RowS (w : World) (g : Nat) (ps : List (List UInt8)) : Prop := g < w.heap.size ∧ ∀ j p, ps[j]? = some p → w.cell? ⟨g, j, none⟩ = some (.string ⟨p.toArray⟩)
theorem RowS.below {w w' : World} {g : Nat} {ps : List (List UInt8)} (h : RowS w g ps) {B : Nat} (hb : Below B w w') (hg : g < B) : RowS w' g ps :=
  ⟨by have := h.1; have := hb.size; omega, fun j p hp => (hb.cell hg).trans (h.2 j p hp)⟩
theorem RowS.of_blk {w : World} {g : Nat} {ps : List (List UInt8)} {t : TypeId} (h : Blk w g t (strVs ps).toArray) : RowS w g ps :=
  ⟨h.lt, fun j p hp => by rw [h.cell j]; simp [strVs, strV, hp]⟩
theorem RowS.only {w w' : World} {g b : Nat} {ps : List (List UInt8)} (h : RowS w g ps) (hg : w.grownBy w' (some b)) (hne : g ≠ b) : RowS w' g ps := by
  refine ⟨Nat.lt_of_lt_of_le h.1 hg.size, fun j p hp => ?_⟩
  rw [← h.2 j p hp]
  have := hg.block g h.1 (fun e => hne (by injection e))
  exact World.cell?_of_block this
theorem only_grown {a w w' : World} {g : Nat} {row : Option Nat} (h : a.grownBy w (some g)) (k : w.grownBy w' row) (hr : ∀ r, row = some r → a.heap.size ≤ r) : a.grownBy w' (some g) :=
  ⟨k.os.trans h.os, k.tape.trans h.tape, k.output.trans h.output, Nat.le_trans h.size k.size, fun i hi hne => (k.block i (Nat.lt_of_lt_of_le hi h.size) (fun e => by have := hr i e.symm; omega)).trans (h.block i hi hne)⟩
theorem setRow_only (w : World) (b : Nat) (cs : Array Value) : w.grownBy (w.setRow b cs) (some b) :=
  ⟨rfl, rfl, rfl, by simp, fun i _ hne => setRow_other w b i cs (fun e => hne (by rw [e]))⟩
theorem only_setRow {a w : World} {b : Nat} (h : a.grownBy w (some b)) (cs : Array Value) : a.grownBy (w.setRow b cs) (some b) :=
  ⟨h.os, h.tape, h.output, by rw [size_setRow]; exact h.size, fun i hi hne => (setRow_other w b i cs (fun e => hne (by rw [e]))).trans (h.block i hi hne)⟩
/-- what a text's fields come back as -/
def FormR (l : List UInt8) (w : World) (e : Ending) (w' : World) : Prop :=
  ∃ v, e = .returned (.tuple #[v, .int .i64 (formE l).1]) ∧ w'.ownsRow w.heap.size 57 2 v (formE l).2.length (fCells (formE l).2) ∧ Below w.heap.size w w'
theorem FormR.err {l : List UInt8} {w w' : World} (n : Nat) (hn : formE l = (n, [])) (hb : Below w.heap.size w w') : FormR l w (.returned (.tuple #[.slice none 0 0, .int .i64 n])) w' := by
  refine ⟨.slice none 0 0, by rw [hn], ?_, hb⟩
  rw [hn]
  exact World.ownsRow_nil _ _ _ _
theorem fold_fl (f : Fl) : Array.foldl (fun (cs : Array Value) (x : Value × Nat) => cs.setIfInBounds x.snd x.fst) #[.string ⟨#[]⟩, .string ⟨#[]⟩] (f.arr.zipIdx) 0 2 = f.arr := by kernel_rfl
set_option maxHeartbeats 16000000 in
theorem parse_walk (s : ByteArray) (l : List UInt8) (hs : s.data.toList = l) (w : World) (hd : DigOk w) (hm : s.size ≤ 1000000) :
    Calls Tryz.prog 27 #[.string s] w (FormR l w) := by
  obtain ⟨i0, hi, hz0, hz1, hz2⟩ := infoS4 info_fl
  have hmf : ∀ (fn : Fn) (first cap : Array Value) (w : World), (Instr.makeFunc fn first cap).run Tryz.prog w = .ok (.func fn first cap) w := fun _ _ _ _ => rfl
  by_cases h0 : l = []
  · have hv : Hid (formE l = (0, [])) := by show _ = _; rw [h0]; rfl
    have he : s = ⟨#[]⟩ := by apply str_eq; rw [hs, h0]
    subst he
    have hb0 := Lib.hid ((Below.refl w.heap.size w).alloc (Nat.le_refl _) (.cells (Fl.mk [] []).arr 57))
    clear h0 hs
    go_enter Tryz.func27, Tryz.ntmps27
    go_wp2_with fail
    go_step3
    go_wp2_with fail
    rw [Exit.noGoto_ret]
    go_ret2
    exact FormR.err 0 hv.out hb0.out
  have hsz : l.length = s.size := by rw [← hs, Lib.size_eq]
  have he1 : s.toList.isEmpty = false := by
    rw [ByteArray.toList_eq, hs]
    cases l with
    | nil => exact absurd rfl h0
    | cons _ _ => rfl
  have he2 : ¬ s.toList = [] := by
    rw [ByteArray.toList_eq, hs]
    exact h0
  have cs := Lib.hid (fun W => split_walk s l hs 38 W hm)
  have hmem := Lib.hid (splitC_mem 38 l)
  have hlen : (splitC 38 l).length ≤ s.size + 1 := by
    have := splitC_len 38 l
    have : l.count 38 ≤ l.length := List.count_le_length
    omega
  have hF : Hid (formE l = if (splitC 38 l).length ≤ 24 then goF [] (splitC 38 l) else (7, [])) := by show _ = _; rw [formE, if_neg h0]
  obtain ⟨ps, hps⟩ : ∃ ps, splitC 38 l = ps := ⟨_, rfl⟩
  rw [hps] at cs hmem hlen hF
  have HD := Lib.hid hd
  have HB0 : Hid (Below w.heap.size w (w.alloc (.cells (Fl.mk [] []).arr 57))) := (Below.refl w.heap.size w).alloc (Nat.le_refl _) _
  have HK0 := Lib.hid (Blk.new w 57 (Fl.mk [] []).arr)
  have hz := zero_of
  clear hd hps h0
  by_cases h24 : 24 < ps.length
  · have hv : Hid (formE l = (7, [])) := by show _ = _; rw [hF.out, if_neg (by omega)]
    have h24d : decide ((24 : Int) < (ps.length : Int)) = true := by simp; omega
    clear hF h24
    go_enter Tryz.func27, Tryz.ntmps27
    go_wp2_with fail
    refine wp_scope_jumps 0 (fun a' w' => Below w.heap.size w w' ∧ ∃ (u0 u1 u2 u3 u4 u5 u6 u7 u9 u10 u11 u12 u13 u14 u15 u16 u17 u18 u19 u20 u21 u22 u23 u24 u25 u26 u27 u28 u29 u30 u31 u32 u33 u34 u35 u36 u37 u38 u39 u40 u41 u42 u43 u44 : Value), a' = { tmps := #[u0, u1, u2, u3, u4, u5, u6, u7, .int .i64 7, u9, u10, u11, u12, u13, u14, u15, u16, u17, u18, u19, u20, u21, u22, u23, u24, u25, u26, u27, u28, u29, u30, u31, u32, u33, u34, u35, u36, u37, u38, u39, u40, u41, u42, u43, u44], defers := [] }) (fun _ _ => 0) rfl ?_ ?_
    · go_wp2_with fail
      refine (cs.out _).mono ?_
      rintro _ w1 ⟨gp, rfl, hgp, hblk, hbel⟩
      have HR := Lib.hid (RowS.of_blk hblk)
      have HB1 := Lib.hid (below_next HB0.out hbel)
      have HK1 := Lib.hid (HK0.out.below hbel HK0.out.lt)
      have hgne : gp ≠ w.heap.size := by have := HK0.out.lt; omega
      have hwl := HK1.out.lt
      clear hblk hbel hgp HB0 HK0 cs hz
      go_wp2_with fail
      go_step3
      exact ⟨rfl, HB1.out, _, _, _, _, _, _, _, _, _, _, _, _, _, _, _, _, _, _, _, _, _, _, _, _, _, _, _, _, _, _, _, _, _, _, _, _, _, _, _, _, _, _, _, _, rfl⟩
    · rintro a' w' ⟨hb, u0, u1, u2, u3, u4, u5, u6, u7, u9, u10, u11, u12, u13, u14, u15, u16, u17, u18, u19, u20, u21, u22, u23, u24, u25, u26, u27, u28, u29, u30, u31, u32, u33, u34, u35, u36, u37, u38, u39, u40, u41, u42, u43, u44, rfl⟩
      go_wp2_with fail
      simp only [Exit.jump]
      go_ret2
      exact FormR.err 7 hv.out hb
  · have hv : Hid (formE l = goF [] ps) := by show _ = _; rw [hF.out, if_pos (by omega)]
    have h24d : decide ((24 : Int) < (ps.length : Int)) = false := by simp; omega
    clear hF
    go_enter Tryz.func27, Tryz.ntmps27
    go_wp2_with fail
    go_step3
    go_wp2_with fail
    refine (cs.out _).mono ?_
    rintro _ w1 ⟨gp, rfl, hgp, hblk, hbel⟩
    have HR := Lib.hid (RowS.of_blk hblk)
    have HB1 := Lib.hid (below_next HB0.out hbel)
    have HK1 := Lib.hid (HK0.out.below hbel HK0.out.lt)
    have hgne : gp ≠ w.heap.size := by have := HK0.out.lt; omega
    have hwl := HK1.out.lt
    clear hblk hbel hgp HB0 HK0 cs hz
    go_wp2_with fail
    go_step3
    go_wp2_with fail
    go_loopw [4, 8, 20] (fun ov ev iv wr => ∃ (k : Nat) (acc : List Fl) (f0 : Fl), k ≤ ps.length ∧ acc.length ≤ k ∧ iv = .int .i64 k ∧ ev = .int .i64 0 ∧ wr.ownsRow w1.heap.size 57 2 ov acc.length (fCells acc) ∧ Hid (goF acc (ps.drop k) = formE l) ∧ Hid (Blk wr w.heap.size 57 f0.arr) ∧ Hid (w1.grownBy wr (some w.heap.size)) ∧ Hid (Below w.heap.size w wr)) (fun _ _ iv _ => ps.length - (intOf iv).toNat)
    case atStart => exact ⟨0, [], ⟨[], []⟩, by omega, by simp, rfl, rfl, World.ownsRow_nil _ _ _ _, hv.out.symm, HK1, only_refl _ _, HB1⟩
    case round =>
      clear HK1 HB1
      obtain ⟨k, acc, f0, hk, hak, rfl, rfl, hown, hgo, HK, HG, HB⟩ := hrel
      have HRr := Lib.hid (HR.out.only HG.out hgne)
      obtain ⟨A, c, rfl, hfs⟩ := FsAt.own hown (by omega)
      by_cases hlt : k < ps.length
      · obtain ⟨p, hpk⟩ : ∃ p, ps[k]? = some p := ⟨_, List.getElem?_eq_getElem (by omega)⟩
        have hc := HRr.out.2 k p hpk
        have hpl := hmem.out p (List.mem_of_getElem? hpk)
        have hst := Lib.hid (goF_at acc ps k p hpk)
        have cf := Lib.hid (field_walk ⟨p.toArray⟩ p (by simp) wr (HD.out.below HB.out) (by rw [size_mks]; omega))
        have HO := Lib.hid hown
        have HF := Lib.hid hfs
        clear hpk hpl hown hfs
        cases hfo : fieldO p with
        | none =>
          rw [hfo] at cf hst
          rw [show fieldV none = .tuple #[.agg (Fl.mk [] []).arr, .bool false] from rfl] at cf
          have hv3 : Hid (formE l = (3, [])) := by show _ = _; rw [← hgo.out, hst.out]
          clear hfo hst
          go_wp2_with fail
          refine cf.out.mono ?_
          rintro _ w2 ⟨rfl, hbn⟩
          have HB2 := Lib.hid (below_next HB.out hbn)
          have HK2 := Lib.hid (HK.out.below hbn HK.out.lt)
          clear hbn
          go_wp2_with (refine wpList_store_fl2 rfl _ _ rfl w.heap.size HK2.out rfl rfl ?_)
          go_step3
          go_wp2_with fail
          rw [Exit.noGoto_ret]
          go_ret2
          exact FormR.err 3 hv3.out (below_setRow HB2.out (Nat.le_refl _) _)
        | some f =>
          rw [hfo] at cf hst
          rw [show fieldV (some f) = .tuple #[.agg f.arr, .bool true] from rfl] at cf
          clear hfo
          go_wp2_with fail
          refine cf.out.mono ?_
          rintro _ w2 ⟨rfl, hbn⟩
          have HB2 := Lib.hid (below_setRow (below_next HB.out hbn) (Nat.le_refl _) f.arr)
          have HK2' := Lib.hid (HK.out.below hbn HK.out.lt)
          have HK2 : Hid (Blk (w2.setRow w.heap.size f.arr) w.heap.size 57 f.arr) := HK2'.out.setRow
          have HG2 := Lib.hid (only_setRow (only_grown HG.out (only_of_below hbn none) (fun r e => by cases e)) f.arr)
          have HO2 : Hid ((w2.setRow w.heap.size f.arr).ownsRow w1.heap.size 57 2 (.slice A acc.length c) acc.length (fCells acc)) :=
            (ownsRow_below HO.out hbn).kept (setRow_only _ _ _) (.inr (fun e => by have := (HO.out.lt _ e).1; omega))
          have hsz2 := hbn.size
          clear hbn
          obtain ⟨A2, c2, e2, hfs2⟩ := FsAt.own HO2.out (by omega)
          injection e2 with eA _ ec
          subst eA ec
          have ct := Lib.hid (fcontains_walk _ _ _ (w2.setRow w.heap.size f.arr) (parse1_walk w.heap.size f _ (HK2.out.cell 0)) acc A c hfs2)
          clear hfs2
          have hany : (acc.any fun r => decide (r.n = f.n)) = hasF f.n acc := rfl
          rw [hany] at ct
          cases hh : hasF f.n acc with
          | true =>
            rw [hh] at ct hst
            have hv6 : Hid (formE l = (6, [])) := by show _ = _; rw [← hgo.out, hst.out]; rfl
            clear hh hany hst
            go_wp2_with (refine wpList_store_fl2 rfl _ _ rfl w.heap.size HK2'.out rfl rfl ?_)
            refine ct.out.mono ?_
            rintro _ w3 ⟨rfl, hbn⟩
            have HB3 := Lib.hid (below_next HB2.out hbn)
            go_wp2_with fail
            go_step3
            go_wp2_with fail
            rw [Exit.noGoto_ret]
            go_ret2
            exact FormR.err 6 hv6.out HB3.out
          | false =>
            rw [hh] at ct hst
            have HNX : Hid (goF (acc ++ [f]) (ps.drop (k + 1)) = formE l) := by show _ = _; rw [← hgo.out, hst.out]; rfl
            clear hh hany hst
            go_wp2_with (refine wpList_store_fl2 rfl _ _ rfl w.heap.size HK2'.out rfl rfl ?_)
            refine ct.out.mono ?_
            rintro _ w3 ⟨rfl, hbn⟩
            have HB3 := Lib.hid (below_next HB2.out hbn)
            have HK3 := Lib.hid (HK2.out.below hbn HK2.out.lt)
            have HG3 := Lib.hid (only_grown HG2.out (only_of_below hbn none) (fun r e => by cases e))
            have HO3 := Lib.hid (ownsRow_below HO2.out hbn)
            have hbf := Lib.hid (blk_fl HK3.out)
            have hal : acc.length ≤ 24 := by omega
            have hfz := f.sz
            have hrd := reads_new w3 57 f.cells
            have hsz3 := hbn.size
            have hws : (w2.setRow w.heap.size f.arr).heap.size = w2.heap.size := size_setRow _ _ _
            have hw13 : w1.heap.size ≤ w3.heap.size := HG3.out.size
            clear hbn ct HB2 HK2 HK2' HG2 HO2 h24
            go_wp2_with (first
              | (refine wpList_load_fl rfl _ rfl ⟨w.heap.size, 0, none⟩ rfl f hbf.out ?_)
              | (at_builtin; rw [fold_fl]; refine wpList_append_any (w3.alloc (.cells f.arr 57)) rfl (.tmp 36) (.tmp 38) 26 rfl w1.heap.size 57 i0 (.agg (Fl.mk [] []).arr) 2 32 Tryz.underlying26 hi hz0 hz1 hz2 rfl (by decide) (.slice A acc.length c) acc.length (fCells acc) rfl (HO3.out.alloc _) (w3.heap.size + 1) _ 1 1 f.cells rfl hrd (fun u hu => fCells_ones [f] u (by simpa [fCells] using hu)) (by unfold maxLen; omega) (by omega) (by simp; omega) ?_; intro v' w5 hown5 hg5 hat5))
            have hown6 := fl_next (l' := acc ++ [f]) hown5 rfl rfl
            have hlt6 : ∀ g', (Value.slice A acc.length c).ownBlock = some g' → w1.heap.size ≤ g' := fun g' h => (HO3.out.lt g' h).1
            have HG5 := Lib.hid (only_grown (only_grown HG3.out (only_alloc (only_refl w3 none) (.cells f.arr 57)) (fun r e => by cases e)) hg5 hlt6)
            have HK5 := Lib.hid ((HK3.out.alloc (.cells f.arr 57)).grown hg5 (fun e => by have := hlt6 _ e.symm; omega))
            have HB5 := Lib.hid ((HB3.out.alloc HB3.out.size (.cells f.arr 57)).grown hg5 (by have := HB3.out.size; simp; omega) (fun g' h => by have := hlt6 g' h; omega))
            exact ⟨⟨k + 1, acc ++ [f], f, by omega, by simp; omega, by go_num, rfl, hown6, HNX, HK5, HG5, HB5⟩, by simp [intOf]; omega⟩
      · obtain rfl : k = ps.length := by omega
        have hv0 : Hid (formE l = (0, acc)) := by show _ = _; rw [← hgo.out]; exact goF_end acc ps
        have HO := Lib.hid hown
        clear hown hfs
        go_wp2_with fail
        rw [Exit.noGoto_ret]
        go_ret2
        refine ⟨.slice A acc.length c, by rw [hv0.out]; rfl, ?_, HB.out⟩
        rw [hv0.out]
        exact World.ownsRow.mono HO.out (Nat.le_of_lt hwl)
end Go.Proofs.YtolfcpbcccbmmaaGreatDoor
