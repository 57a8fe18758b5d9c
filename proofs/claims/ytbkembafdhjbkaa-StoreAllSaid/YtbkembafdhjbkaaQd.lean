import Derived.Test.YtbkembafdhjbkaaQc
import Derived.Lib.BufferMore
set_option linter.unusedVariables false
namespace Go.Proofs.Ytbkembafdhjbkaa
open Go.RowKit
def idxI (p : Rc → Bool) (rs : List Rc) : Int := match rs.findIdx? p with
  | some i => i
  | none => -1
theorem idx_some {p : Rc → Bool} {rs : List Rc} {k : Nat} {r : Rc} (h : ∀ j, j < k → ∀ r, rs[j]? = some r → p r = false) (hk : rs[k]? = some r) (hp : p r = true) : rs.findIdx? p = some k := by
  obtain ⟨hlt, e⟩ := List.getElem?_eq_some_iff.1 hk
  rw [List.findIdx?_eq_some_iff_getElem]
  refine ⟨hlt, by rw [e]; exact hp, fun j hj => ?_⟩
  rw [h j hj _ (List.getElem?_eq_getElem (by omega))]
  simp
theorem idx_none {p : Rc → Bool} {rs : List Rc} (h : ∀ j, j < rs.length → ∀ r, rs[j]? = some r → p r = false) : rs.findIdx? p = none := by
  rw [List.findIdx?_eq_none_iff]
  intro x hx
  obtain ⟨j, hj, e⟩ := List.getElem_of_mem hx
  exact h j hj x (by rw [List.getElem?_eq_getElem hj, e])
theorem idx_any (p : Rc → Bool) (rs : List Rc) : decide (0 ≤ idxI p rs) = rs.any p := by
  unfold idxI
  cases h : rs.findIdx? p with
  | none =>
    rw [List.findIdx?_eq_none_iff] at h
    have : rs.any p = false := by
      rw [List.any_eq_false]
      intro x hx
      simp [h x hx]
    rw [this]
    rfl
  | some i =>
    rw [List.findIdx?_eq_some_iff_getElem] at h
    obtain ⟨hlt, hp, _⟩ := h
    have : rs.any p = true := List.any_eq_true.2 ⟨_, List.getElem_mem hlt, hp⟩
    rw [this]
    simp
set_option maxHeartbeats 1000000 in
theorem index_walk (F : FuncId) (caps : Array Value) (p : Rc → Bool) (w : World) (hF : Tells F caps w p) (rs : List Rc) (A : Option Addr) (c : Nat) (hr : RecsAt w A c rs) :
    Calls Try.prog 49 #[.slice A rs.length c, .func (.func F) #[] caps] w fun e w' => e = .returned (.int .i64 (idxI p rs)) ∧ Below w.heap.size w w' := by
  have hcf := hF.1
  obtain ⟨hc, hm, hr⟩ := hr
  go_enter Try.func49, Try.ntmps49
  go_wp2_with fail
  go_loopw [8] (fun nv wr => ∃ k : Nat, k ≤ rs.length ∧ nv = .int .i64 k ∧ Hid (∀ j, j < k → ∀ r, rs[j]? = some r → p r = false) ∧ Below w.heap.size w wr) (fun nv _ => rs.length - (intOf nv).toNat)
  case atStart => exact ⟨0, by omega, rfl, fun j hj => by omega, Below.refl _ _⟩
  case round =>
    obtain ⟨k, hk, rfl, hno, hbl⟩ := hrel
    by_cases hlt : k < rs.length
    · obtain ⟨ad, rfl⟩ : ∃ ad, A = some ad := by obtain ⟨ad, h, _⟩ := hr.2 (by omega); exact ⟨ad, h⟩
      obtain ⟨r, hrk⟩ : ∃ r, rs[k]? = some r := ⟨rs[k], List.getElem?_eq_getElem hlt⟩
      have hra := Lib.hid (rec_at (hr.below hbl) hrk)
      have cF := Lib.hid (hF.2 r _ hbl)
      go_wp2_with (refine wpList_load_rec rfl _ rfl (ad.add (k * 15)) rfl r hra.out ?_)
      refine cF.out.mono ?_
      rintro _ w1 ⟨rfl, hbn⟩
      have hb2 : Below w.heap.size w w1 := below_next hbl hbn
      cases hp : p r
      · have HN : Hid (∀ j, j < k + 1 → ∀ r, rs[j]? = some r → p r = false) := by
          show ∀ j, j < k + 1 → _
          intro j hj r' hr'
          rcases Nat.lt_or_ge j k with h | h
          · exact hno.out j h r' hr'
          · rw [show j = k by omega, hrk] at hr'
            injection hr' with e
            rw [← e]; exact hp
        go_wp2_with fail
        exact ⟨⟨k + 1, by omega, by go_num, HN, hb2⟩, by simp [intOf]; omega⟩
      · have hv : Hid (idxI p rs = (k : Int)) := by show _ = _; rw [idxI, idx_some hno.out hrk hp]
        go_wp2_with fail
        go_ret
        exact ⟨by rw [hv.out]; rfl, hb2⟩
    · obtain rfl : k = rs.length := by omega
      have hv : Hid (idxI p rs = -1) := by show _ = _; rw [idxI, idx_none hno.out]
      go_wp2_with fail
      go_ret
      exact ⟨by rw [hv.out]; rfl, hbl⟩
theorem contains_walk (F : FuncId) (caps : Array Value) (p : Rc → Bool) (w : World) (hF : Tells F caps w p) (rs : List Rc) (A : Option Addr) (c : Nat) (hr : RecsAt w A c rs) :
    Calls Try.prog 36 #[.slice A rs.length c, .func (.func F) #[] caps] w fun e w' => e = .returned (.bool (rs.any p)) ∧ Below w.heap.size w w' := by
  have hb := Below.refl w.heap.size w
  have ha := Lib.hid (idx_any p rs)
  have ci := Lib.hid (index_walk F caps p w hF rs A c hr)
  go_enter Try.func36, Try.ntmps36
  go_wp2_with fail
  refine (ci.out).mono ?_
  rintro _ w1 ⟨rfl, hbn⟩
  replace hb := below_next hb hbn
  clear hbn
  go_wp2_with fail
  go_ret
  exact ⟨by rw [← ha.out]; rfl, hb⟩
theorem own_empty15 (w : World) (e : TypeId) : (w.alloc (.cells #[] e)).ownsRow w.heap.size e 15 (.slice (some ⟨w.heap.size, 0, none⟩) 0 0) 0 [] :=
  World.ownsRow_made w #[] 0 (Nat.le_refl _) (by decide) rfl
set_option maxHeartbeats 1000000 in
theorem clone_walk (rs : List Rc) (A : Option Addr) (c : Nat) (w : World) (hr : RecsAt w A c rs) :
    Calls Try.prog 35 #[.slice A rs.length c] w (OwnRec rs w) := by
  obtain ⟨i0, hi, hz0, hz1, hz2⟩ := info_parts info_rec
  obtain ⟨hc, hm, hr⟩ := hr
  cases A with
  | none =>
    have h0 : rs = [] := by
      cases rs with
      | nil => rfl
      | cons r rs => obtain ⟨ad, h, _⟩ := hr.2 (by simp); cases h
    subst h0
    have hnn : ∀ W, (binOp .eql 24 (.slice none 0 c) (.slice none 0 0)).run Try.prog W = .ok (.bool true) W := fun W => Lib.run_eql_slice_nil_nil W 0 c Try.underlying24
    go_enter Try.func35, Try.ntmps35
    go_wp2_with fail
    go_ret
    exact ⟨_, rfl, World.ownsRow_nil _ _ _ _, Below.refl _ _⟩
  | some ad =>
    have hnn : ∀ W, (binOp .eql 24 (.slice (some ad) rs.length c) (.slice none 0 0)).run Try.prog W = .ok (.bool false) W := fun W => Lib.run_eql_slice_some_nil W ad _ c Try.underlying24
    go_enter Try.func35, Try.ntmps35
    go_wp2_with (at_builtin; refine wpList_append_any (w.alloc (.cells #[] 32)) rfl (.tmp 5) (.tmp 6) 24 rfl w.heap.size 32 i0 (.agg Rc.none.arr) 15 176 Try.underlying24 hi hz0 hz1 hz2 rfl (by decide) (.slice (some ⟨w.heap.size, 0, none⟩) 0 0) 0 [] rfl (own_empty15 w _) (w.heap.size) _ _ _ (recCells rs) rfl (hr.alloc (Nat.le_refl _) _) (recCells_ones rs) (by unfold maxLen; omega) (by omega) (by simp) ?_; intro v' w2 hown2 hg2 hat2)
    go_ret
    rw [Nat.zero_add, List.nil_append] at hown2
    exact ⟨v', rfl, hown2, ((Below.refl w.heap.size w).alloc (Nat.le_refl _) _).grown hg2 (by simp) (fun g hg => by simp [Value.ownBlock] at hg; omega)⟩
end Go.Proofs.Ytbkembafdhjbkaa
