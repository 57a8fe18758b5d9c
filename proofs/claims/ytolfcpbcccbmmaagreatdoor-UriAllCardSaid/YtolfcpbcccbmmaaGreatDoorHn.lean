/- countersignref10.Unlike of fields with unlike names. No condition of its own. -/
import Derived.Test.YtolfcpbcccbmmaaGreatDoorHm
set_option linter.unusedVariables false
set_option linter.unusedSimpArgs false
set_option maxRecDepth 20000
namespace Go.Proofs.YtolfcpbcccbmmaaGreatDoor
open Go.RowKit Pc
theorem FsAt.take {w : World} {A : Option Addr} {c : Nat} {fs : List Fl} (h : FsAt w A c fs) {k : Nat} (hk : k ≤ fs.length) : FsAt w A c (fs.take k) := by
  have hl : (fs.take k).length = k := by rw [List.length_take]; omega
  refine ⟨by rw [hl]; exact Nat.le_trans hk h.1, by rw [hl]; exact Nat.le_trans hk h.2.1, ?_⟩
  rw [hl, fCells_take]
  exact h.2.2.front hk
set_option maxHeartbeats 4000000 in
theorem unlike_walk (fs : List Fl) (A : Option Addr) (c : Nat) (w : World) (hr : FsAt w A c fs) (hU : UnlikeP fs) :
    Calls Tryz.prog 57 #[.slice A fs.length c] w fun e w' => e = .returned (.bool true) ∧ Below w.heap.size w w' := by
  have HR := Lib.hid hr
  have HU := Lib.hid hU
  obtain ⟨hc, hm, _⟩ := hr
  clear hU
  go_enter Tryz.func57, Tryz.ntmps57
  go_wp2_with fail
  go_loopw [3] (fun nv wr => ∃ k : Nat, k ≤ fs.length ∧ nv = .int .i64 k ∧ Hid (FsAt wr A c fs) ∧ Hid (Below w.heap.size w wr)) (fun nv _ => fs.length - (intOf nv).toNat)
  case atStart => exact ⟨0, by omega, rfl, HR, Below.refl _ _⟩
  case round =>
    clear HR
    obtain ⟨k, hk, rfl, HR, HB⟩ := hrel
    by_cases hlt : k < fs.length
    · obtain ⟨ad, rfl⟩ : ∃ ad, A = some ad := by obtain ⟨ad, h, _⟩ := HR.out.2.2.2 (by omega); exact ⟨ad, h⟩
      obtain ⟨f, hfk⟩ : ∃ f, fs[k]? = some f := ⟨fs[k], List.getElem?_eq_getElem hlt⟩
      obtain ⟨hc0, hc1⟩ := fl_two HR.out.2.2 hfk
      obtain ⟨hn, hh⟩ := HU.out k f hfk
      have hn1 : f.n.isEmpty = false := by cases hq : f.n with | nil => exact absurd hq hn | cons _ _ => rfl
      have hki : (k : Int) < (fs.length : Int) := by omega
      have hkc : (k : Int) ≤ (c : Int) := by omega
      have ct := Lib.hid (fun q => rhas_walk (fs.take k) (some ad) c f.n ⟨f.n.toArray⟩ (by simp) (wr.drewN q) ((HR.out.take hk).drewN q))
      rw [show (fs.take k).length = k by rw [List.length_take]; omega, hh] at ct
      clear hh hfk
      go_wp2_with fail
      go_quiet ((go_at_call 53; refine (ct.out _).mono ?_; rintro e w9 ⟨rfl, rfl⟩; exact ⟨rfl, _, rfl⟩))
      go_wp2_with fail
      exact ⟨⟨k + 1, by omega, by go_num, HR, below_drewN HB.out _⟩, by simp [intOf]; omega⟩
    · obtain rfl : k = fs.length := by omega
      go_wp2_with fail
      go_ret
      exact ⟨rfl, HB.out⟩
end Go.Proofs.YtolfcpbcccbmmaaGreatDoor
