/- Functions that tell of a field; slices.IndexFunc, ContainsFunc of fields; query.Get, countersignref10.Get, Has. No condition of its own. -/
import Derived.Test.YtolfcpbcccbmmaaGreatDoorHa
import Derived.Lib.BufferMore
set_option linter.unusedVariables false
set_option linter.unusedSimpArgs false
set_option maxRecDepth 20000
namespace Go.Proofs.YtolfcpbcccbmmaaGreatDoor
open Go.RowKit
/-- a function value that tells of a field whether it is wanted -/
def Tells (F : FuncId) (caps : Array Value) (w0 : World) (p : Fl → Bool) : Prop :=
  (∀ (args : Array Value) (w : World), (callFunc F args).run Tryz.prog w = .ok (.enter F args) w) ∧
  ∀ (r : Fl) (w : World), Below w0.heap.size w0 w → Calls Tryz.prog F (#[.agg r.arr] ++ caps) w fun e w' => e = .returned (.bool (p r)) ∧ Below w.heap.size w w'
theorem eq_strL (p q : List UInt8) : ((⟨p.toArray⟩ : ByteArray).toList == (⟨q.toArray⟩ : ByteArray).toList) = decide (p = q) := by
  rw [ByteArray.toList_eq, ByteArray.toList_eq, Bool.eq_iff_iff]; simp
theorem eq_strS (p : List UInt8) (x : ByteArray) (q : List UInt8) (hx : x.data.toList = q) : ((⟨p.toArray⟩ : ByteArray).toList == x.toList) = decide (p = q) := by
  rw [str_eta x q hx]; exact eq_strL p q
theorem eq_strP (p q : List UInt8) (x : ByteArray) (hx : x.data.toList = q) : (p == x.toList) = decide (p = q) := by
  rw [ByteArray.toList_eq, hx, Bool.eq_iff_iff]; simp
set_option maxHeartbeats 400000 in
theorem parse1_walk (g : Nat) (f : Fl) (w0 : World) (hc : w0.cell? ⟨g, 0, none⟩ = some (strV f.n)) :
    Tells 49 #[.pointer (some ⟨g, 0, none⟩)] w0 fun r => decide (r.n = f.n) := by
  refine ⟨fun args w => by kernel_rfl, fun r w hb => ?_⟩
  replace hc : w.cell? ⟨g, 0, none⟩ = some (.string ⟨f.n.toArray⟩) := (hb.cell (World.block_lt_of_cell? w0 _ hc)).trans hc
  have h2 := r.at0
  have hg := World.block_lt_of_cell? w _ hc
  have hb := Below.refl w.heap.size w
  have he := Lib.hid (eq_strL r.n f.n)
  show Calls _ _ _ _ fun e w' => e = .returned (.bool (decide (r.n = f.n))) ∧ Below w.heap.size w w'
  rw [← he.out]
  generalize (⟨f.n.toArray⟩ : ByteArray) = y at hc he ⊢
  generalize (⟨r.n.toArray⟩ : ByteArray) = x at h2 he ⊢
  go_enter Tryz.func49, Tryz.ntmps49
  go_wp2_with fail
  go_ret
  exact ⟨rfl, hb.alloc hb.size _⟩
def idxI (p : Fl → Bool) (fs : List Fl) : Int := match fs.findIdx? p with
  | some i => i
  | none => -1
theorem idx_some {p : Fl → Bool} {fs : List Fl} {k : Nat} {r : Fl} (h : ∀ j, j < k → ∀ r, fs[j]? = some r → p r = false) (hk : fs[k]? = some r) (hp : p r = true) : fs.findIdx? p = some k := by
  obtain ⟨hlt, e⟩ := List.getElem?_eq_some_iff.1 hk
  rw [List.findIdx?_eq_some_iff_getElem]
  refine ⟨hlt, by rw [e]; exact hp, fun j hj => ?_⟩
  rw [h j hj _ (List.getElem?_eq_getElem (by omega))]
  simp
theorem idx_none {p : Fl → Bool} {fs : List Fl} (h : ∀ j, j < fs.length → ∀ r, fs[j]? = some r → p r = false) : fs.findIdx? p = none := by
  rw [List.findIdx?_eq_none_iff]
  intro x hx
  obtain ⟨j, hj, e⟩ := List.getElem_of_mem hx
  exact h j hj x (by rw [List.getElem?_eq_getElem hj, e])
theorem idx_any (p : Fl → Bool) (fs : List Fl) : decide (0 ≤ idxI p fs) = fs.any p := by
  unfold idxI
  cases h : fs.findIdx? p with
  | none =>
    rw [List.findIdx?_eq_none_iff] at h
    have : fs.any p = false := by
      rw [List.any_eq_false]
      intro x hx
      simp [h x hx]
    rw [this]
    rfl
  | some i =>
    rw [List.findIdx?_eq_some_iff_getElem] at h
    obtain ⟨hlt, hp, _⟩ := h
    have : fs.any p = true := List.any_eq_true.2 ⟨_, List.getElem_mem hlt, hp⟩
    rw [this]
    simp
set_option maxHeartbeats 1000000 in
theorem findex_walk (F : FuncId) (caps : Array Value) (p : Fl → Bool) (w : World) (hF : Tells F caps w p) (fs : List Fl) (A : Option Addr) (c : Nat) (hr : FsAt w A c fs) :
    Calls Tryz.prog 55 #[.slice A fs.length c, .func (.func F) #[] caps] w fun e w' => e = .returned (.int .i64 (idxI p fs)) ∧ Below w.heap.size w w' := by
  have hcf := hF.1
  obtain ⟨hc, hm, hr⟩ := hr
  go_enter Tryz.func55, Tryz.ntmps55
  go_wp2_with fail
  go_loopw [8] (fun nv wr => ∃ k : Nat, k ≤ fs.length ∧ nv = .int .i64 k ∧ Hid (∀ j, j < k → ∀ r, fs[j]? = some r → p r = false) ∧ Below w.heap.size w wr) (fun nv _ => fs.length - (intOf nv).toNat)
  case atStart => exact ⟨0, by omega, rfl, fun j hj => by omega, Below.refl _ _⟩
  case round =>
    obtain ⟨k, hk, rfl, hno, hbl⟩ := hrel
    by_cases hlt : k < fs.length
    · obtain ⟨ad, rfl⟩ : ∃ ad, A = some ad := by obtain ⟨ad, h, _⟩ := hr.2 (by omega); exact ⟨ad, h⟩
      obtain ⟨r, hrk⟩ : ∃ r, fs[k]? = some r := ⟨fs[k], List.getElem?_eq_getElem hlt⟩
      have hra := Lib.hid (fl_at (hr.below hbl) hrk)
      have cF := Lib.hid (hF.2 r _ hbl)
      go_wp2_with (refine wpList_load_fl rfl _ rfl (ad.add (k * 2)) rfl r hra.out ?_)
      refine cF.out.mono ?_
      rintro _ w1 ⟨rfl, hbn⟩
      have hb2 : Below w.heap.size w w1 := below_next hbl hbn
      cases hp : p r
      · have HN : Hid (∀ j, j < k + 1 → ∀ r, fs[j]? = some r → p r = false) := by
          show ∀ j, j < k + 1 → _
          intro j hj r' hr'
          rcases Nat.lt_or_ge j k with h | h
          · exact hno.out j h r' hr'
          · rw [show j = k by omega, hrk] at hr'
            injection hr' with e
            rw [← e]; exact hp
        go_wp2_with fail
        exact ⟨⟨k + 1, by omega, by go_num, HN, hb2⟩, by simp [intOf]; omega⟩
      · have hv : Hid (idxI p fs = (k : Int)) := by show _ = _; rw [idxI, idx_some hno.out hrk hp]
        go_wp2_with fail
        go_ret
        exact ⟨by rw [hv.out]; rfl, hb2⟩
    · obtain rfl : k = fs.length := by omega
      have hv : Hid (idxI p fs = -1) := by show _ = _; rw [idxI, idx_none hno.out]
      go_wp2_with fail
      go_ret
      exact ⟨by rw [hv.out]; rfl, hbl⟩
theorem fcontains_walk (F : FuncId) (caps : Array Value) (p : Fl → Bool) (w : World) (hF : Tells F caps w p) (fs : List Fl) (A : Option Addr) (c : Nat) (hr : FsAt w A c fs) :
    Calls Tryz.prog 32 #[.slice A fs.length c, .func (.func F) #[] caps] w fun e w' => e = .returned (.bool (fs.any p)) ∧ Below w.heap.size w w' := by
  have hb := Below.refl w.heap.size w
  have ha := Lib.hid (idx_any p fs)
  have ci := Lib.hid (findex_walk F caps p w hF fs A c hr)
  go_enter Tryz.func32, Tryz.ntmps32
  go_wp2_with fail
  refine (ci.out).mono ?_
  rintro _ w1 ⟨rfl, hbn⟩
  replace hb := below_next hb hbn
  clear hbn
  go_wp2_with fail
  go_ret
  exact ⟨by rw [← ha.out]; rfl, hb⟩
/-- the value of a name -/
def getF (q : List UInt8) : List Fl → Option (List UInt8)
  | [] => none
  | f :: fs => if f.n = q then some f.v else getF q fs
def getV : Option (List UInt8) → Value
  | some v => .tuple #[.string ⟨v.toArray⟩, .bool true]
  | none => .tuple #[.string ⟨#[]⟩, .bool false]
theorem getF_at (q : List UInt8) (fs : List Fl) (k : Nat) (f : Fl) (h : fs[k]? = some f) : getF q (fs.drop k) = if f.n = q then some f.v else getF q (fs.drop (k + 1)) := by
  have hk := (List.getElem?_eq_some_iff.1 h).1
  have hp : fs[k] = f := (List.getElem?_eq_some_iff.1 h).2
  rw [List.drop_eq_getElem_cons hk, hp, getF]
theorem getF_end (q : List UInt8) (fs : List Fl) : getF q (fs.drop fs.length) = none := by rw [List.drop_length]; rfl
theorem getF_has (q : List UInt8) (fs : List Fl) : (getF q fs).isSome = fs.any (fun f => decide (f.n = q)) := by
  induction fs with
  | nil => rfl
  | cons f fs ih =>
    rw [getF, List.any_cons]
    by_cases h : f.n = q
    · rw [if_pos h]; simp [h]
    · rw [if_neg h, ih]; simp [h]
end Go.Proofs.YtolfcpbcccbmmaaGreatDoor
