/- slices.ContainsFunc over the names that were there; uri.target. Condition of target: the table of digits is laid. -/
import Derived.Test.YtolfcpbcccbmmaaGreatDoorUc
set_option linter.unusedVariables false
set_option linter.unusedSimpArgs false
set_option maxRecDepth 20000
namespace Go.Proofs.YtolfcpbcccbmmaaGreatDoor
open Go.RowKit Pc
theorem unlikeP_step {fs : List Fl} {k : Nat} {f : Fl} (h : UnlikeP (fs.take k)) (hf : fs[k]? = some f) (h1 : f.n ≠ []) (h2 : ((fs.take k).map Fl.n).contains f.n = false) : UnlikeP (fs.take (k + 1)) := by
  rw [List.take_add_one, hf]
  refine unlikeP_snoc h h1 ?_
  rw [hasF, Bool.eq_false_iff]
  intro hh
  rw [List.any_eq_true] at hh
  obtain ⟨g, hg, he⟩ := hh
  rw [Bool.eq_false_iff] at h2
  apply h2
  rw [List.contains_iff_mem, List.mem_map]
  exact ⟨g, hg, by simpa using he⟩
theorem unlikeP_bad {fs : List Fl} {k : Nat} {f : Fl} (hf : fs[k]? = some f) (h : f.n = [] ∨ ((fs.take k).map Fl.n).contains f.n = true) : ¬ UnlikeP fs := by
  intro hu
  obtain ⟨h1, h2⟩ := hu k f hf
  rcases h with h | h
  · exact h1 h
  · rw [List.contains_iff_mem, List.mem_map] at h
    obtain ⟨g, hg, he⟩ := h
    rw [hasF, Bool.eq_false_iff] at h2
    apply h2
    rw [List.any_eq_true]
    exact ⟨g, hg, by simpa using he⟩
theorem map_take_succ (fs : List Fl) (k : Nat) (f : Fl) (h : fs[k]? = some f) : (fs.take (k + 1)).map Fl.n = (fs.take k).map Fl.n ++ [f.n] := by
  rw [List.take_add_one, h]; simp
set_option maxHeartbeats 4000000 in
theorem tindex_walk (gb : Nat) (fs : List Fl) (A : Option Addr) (c : Nat) (w : World) (hr : Reads w gb 2 A fs.length (fCells fs)) (hc : fs.length ≤ c) (hl : fs.length ≤ 4000) (hs : SeenAt w gb []) :
    Calls Tryz.prog 55 #[.slice A fs.length c, .func (.func 33) #[.pointer (some ⟨gb, 0, none⟩)] #[]] w fun e w' => (∃ i : Int, e = .returned (.int .i64 i) ∧ decide (0 ≤ i) = !unlikeQ fs) ∧ Below gb w w' := by
  have hcf : ∀ (args : Array Value) (w : World), (callFunc 33 args).run Tryz.prog w = .ok (.enter 33 args) w := fun args w => by kernel_rfl
  have HS := Lib.hid hs
  clear hs
  go_enter Tryz.func55, Tryz.ntmps55
  go_wp2_with fail
  go_loopw [8] (fun nv wr => ∃ k : Nat, k ≤ fs.length ∧ nv = .int .i64 k ∧ Hid (UnlikeP (fs.take k)) ∧ Hid (SeenAt wr gb ((fs.take k).map Fl.n)) ∧ Below gb w wr) (fun nv _ => fs.length - (intOf nv).toNat)
  case atStart => exact ⟨0, by omega, rfl, unlikeP_nil, HS, Below.refl _ _⟩
  case round =>
    clear HS
    obtain ⟨k, hk, rfl, hU, hS, hbl⟩ := hrel
    by_cases hlt : k < fs.length
    · obtain ⟨ad, rfl⟩ : ∃ ad, A = some ad := by obtain ⟨ad, h, _⟩ := hr.2 (by omega); exact ⟨ad, h⟩
      obtain ⟨f, hfk⟩ : ∃ r, fs[k]? = some r := ⟨fs[k], List.getElem?_eq_getElem hlt⟩
      have hra := Lib.hid (fl_at (hr.below hbl) hfk)
      have cF := Lib.hid (twice_walk gb ((fs.take k).map Fl.n) f wr hS.out (by rw [List.length_map, List.length_take]; omega))
      have HFK := Lib.hid hfk
      clear hfk
      go_wp2_with (refine wpList_load_fl rfl _ rfl (ad.add (k * 2)) rfl f hra.out ?_)
      try rw [hcf, Oper.upon_enter]
      refine cF.out.mono ?_
      rintro _ w1 ⟨hbn, ⟨rfl, hbad⟩ | ⟨rfl, h1, h2, h3⟩⟩
      · have hb2 := Lib.hid (hbl.trans hbn)
        have hv : Hid (unlikeQ fs = false) := by
          show _ = _
          rw [Bool.eq_false_iff]
          intro hq
          exact unlikeP_bad HFK.out hbad ((unlikeQ_iff fs).1 hq)
        clear hbad hbn hbl
        go_wp2_with fail
        go_ret
        exact ⟨⟨k, rfl, by rw [hv.out]; simp⟩, hb2.out⟩
      · have hb2 : Below gb w w1 := hbl.trans hbn
        have HU : Hid (UnlikeP (fs.take (k + 1))) := unlikeP_step hU.out HFK.out h1 h2
        have HS : Hid (SeenAt w1 gb ((fs.take (k + 1)).map Fl.n)) := by
          show SeenAt _ _ _
          rw [map_take_succ fs k f HFK.out]
          exact h3
        clear h1 h2 h3 hbn
        go_wp2_with fail
        exact ⟨⟨k + 1, by omega, by go_num, HU, HS, hb2⟩, by simp [intOf]; omega⟩
    · obtain rfl : k = fs.length := by omega
      rw [List.take_length] at hU
      have hv : Hid (unlikeQ fs = true) := (unlikeQ_iff fs).2 hU.out
      go_wp2_with fail
      go_ret
      exact ⟨⟨-1, rfl, by rw [hv.out]; rfl⟩, hbl⟩
theorem tcontains_walk (gb : Nat) (fs : List Fl) (A : Option Addr) (c : Nat) (w : World) (hr : Reads w gb 2 A fs.length (fCells fs)) (hc : fs.length ≤ c) (hl : fs.length ≤ 4000) (hs : SeenAt w gb []) :
    Calls Tryz.prog 32 #[.slice A fs.length c, .func (.func 33) #[.pointer (some ⟨gb, 0, none⟩)] #[]] w fun e w' => e = .returned (.bool (!unlikeQ fs)) ∧ Below gb w w' := by
  have ci := Lib.hid (tindex_walk gb fs A c w hr hc hl hs)
  clear hr hl hs
  go_enter Tryz.func32, Tryz.ntmps32
  go_wp2_with fail
  refine ci.out.mono ?_
  rintro _ w2 ⟨⟨i, rfl, hi⟩, hb⟩
  have HI := Lib.hid hi
  clear hi
  go_wp2_with fail
  go_ret
  exact ⟨by rw [← HI.out]; rfl, hb⟩
end Go.Proofs.YtolfcpbcccbmmaaGreatDoor
