/- countersignref10.Get, Has. No condition of its own. -/
import Derived.Test.YtolfcpbcccbmmaaGreatDoorHb
set_option linter.unusedVariables false
set_option linter.unusedSimpArgs false
set_option maxRecDepth 20000
namespace Go.Proofs.YtolfcpbcccbmmaaGreatDoor
open Go.RowKit
theorem add_zero_at (a : Addr) : a.add 0 = a := by
  obtain ⟨b, o, l⟩ := a
  unfold Addr.add
  split <;> simp_all
theorem fl_two {w : World} {B n : Nat} {ad : Addr} {fs : List Fl} (h : Reads w B 2 (some ad) n (fCells fs)) {k : Nat} {f : Fl} (hk : fs[k]? = some f) : w.cell? (ad.add (k * 2)) = some (.string ⟨f.n.toArray⟩) ∧ w.cell? ⟨(ad.add (k * 2)).block, (ad.add (k * 2)).off + 1, none⟩ = some (.string ⟨f.v.toArray⟩) := by
  have h0 := fl_at h hk 0 _ rfl
  rw [add_zero_at] at h0
  exact ⟨h0, fl_at h hk 1 _ rfl⟩
set_option maxHeartbeats 2000000 in
theorem rget_walk (fs : List Fl) (A : Option Addr) (c : Nat) (q : List UInt8) (x : ByteArray) (hx : x.data.toList = q) (w : World) (hr : FsAt w A c fs) :
    Calls Tryz.prog 72 #[.slice A fs.length c, .string x] w fun e w' => e = .returned (getV (getF q fs)) ∧ w = w' := by
  obtain ⟨hc, hm, hr⟩ := hr
  go_enter Tryz.func72, Tryz.ntmps72
  go_wp2_with fail
  go_loopw [6] (fun nv wr => ∃ k : Nat, k ≤ fs.length ∧ nv = .int .i64 k ∧ Hid (getF q (fs.drop k) = getF q fs) ∧ w = wr) (fun nv _ => fs.length - (intOf nv).toNat)
  case atStart => exact ⟨0, by omega, rfl, rfl, rfl⟩
  case round =>
    obtain ⟨k, hk, rfl, hno, rfl⟩ := hrel
    by_cases hlt : k < fs.length
    · obtain ⟨ad, rfl⟩ : ∃ ad, A = some ad := by obtain ⟨ad, h, _⟩ := hr.2 (by omega); exact ⟨ad, h⟩
      obtain ⟨f, hfk⟩ : ∃ f, fs[k]? = some f := ⟨fs[k], List.getElem?_eq_getElem hlt⟩
      obtain ⟨hc0, hc1⟩ := fl_two hr hfk
      have hst := Lib.hid (getF_at q fs k f hfk)
      have hcmp := eq_strS f.n x q hx
      have hcmp2 := eq_strP f.n q x hx
      clear hfk
      by_cases he : f.n = q
      · have hv : Hid (getF q fs = some f.v) := by show _ = _; rw [← hno.out, hst.out, if_pos he]
        rw [decide_eq_true he] at hcmp hcmp2
        clear he
        go_wp2_with fail
        go_ret2
        exact ⟨by rw [hv.out]; rfl, rfl⟩
      · have HN : Hid (getF q (fs.drop (k + 1)) = getF q fs) := by show _ = _; rw [← hno.out, hst.out, if_neg he]
        rw [decide_eq_false he] at hcmp hcmp2
        clear he
        go_wp2_with fail
        exact ⟨⟨k + 1, by omega, by go_num, HN, trivial⟩, by simp [intOf]; omega⟩
    · obtain rfl : k = fs.length := by omega
      have hv : Hid (getF q fs = none) := by show _ = _; rw [← hno.out]; exact getF_end q fs
      go_wp2_with fail
      go_ret2
      exact ⟨by rw [hv.out]; rfl, rfl⟩
/-- is there a field of that name? -/
def hasF (q : List UInt8) (fs : List Fl) : Bool := fs.any fun f => decide (f.n = q)
theorem getV_cases (o : Option (List UInt8)) : ∃ x b, getV o = .tuple #[.string x, .bool b] ∧ b = o.isSome := by
  cases o with
  | none => exact ⟨_, _, rfl, rfl⟩
  | some v => exact ⟨_, _, rfl, rfl⟩
theorem rhas_walk (fs : List Fl) (A : Option Addr) (c : Nat) (q : List UInt8) (x : ByteArray) (hx : x.data.toList = q) (w : World) (hr : FsAt w A c fs) :
    Calls Tryz.prog 53 #[.slice A fs.length c, .string x] w fun e w' => e = .returned (.bool (hasF q fs)) ∧ w = w' := by
  have cg := Lib.hid (rget_walk fs A c q x hx w hr)
  obtain ⟨y, b, hv, hb⟩ := getV_cases (getF q fs)
  rw [getF_has] at hb
  have HB : Hid (hasF q fs = b) := hb.symm
  rw [hv] at cg
  clear hv hb hr
  go_enter Tryz.func53, Tryz.ntmps53
  go_wp2_with fail
  refine (cg.out).mono ?_
  rintro _ w1 ⟨rfl, rfl⟩
  go_wp2_with fail
  go_ret
  exact ⟨by rw [HB.out]; rfl, rfl⟩
end Go.Proofs.YtolfcpbcccbmmaaGreatDoor
