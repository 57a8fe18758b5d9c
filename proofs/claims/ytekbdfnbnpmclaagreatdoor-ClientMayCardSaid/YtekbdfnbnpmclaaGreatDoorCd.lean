/- client.Find and countersignref17.Find; Knows of both. No condition of its own. -/
import Derived.Test.YtekbdfnbnpmclaaGreatDoorCc
set_option linter.unusedVariables false
set_option linter.unusedSimpArgs false
set_option maxRecDepth 20000
namespace Go.Proofs.YtekbdfnbnpmclaaGreatDoor
open Go.RowKit Pc
/-- a function value that tells of a client whether it is wanted -/
def TellsK (F : FuncId) (caps : Array Value) (w0 : World) (p : Cl → Bool) : Prop :=
  (∀ (args : Array Value) (w : World), (callFunc F args).run Tryz.prog w = .ok (.enter F args) w) ∧
  ∀ (r : Cl) (w : World), Below w0.heap.size w0 w → Calls Tryz.prog F (#[.agg r.arr] ++ caps) w fun e w' => e = .returned (.bool (p r)) ∧ Below w.heap.size w w'
set_option maxHeartbeats 400000 in
theorem find1_walk (g : Nat) (q : List UInt8) (w0 : World) (hc : w0.cell? ⟨g, 0, none⟩ = some (strV q)) :
    TellsK 22 #[.pointer (some ⟨g, 0, none⟩)] w0 (isId q) := by
  refine ⟨fun args w => by kernel_rfl, fun r w hb => ?_⟩
  replace hc : w.cell? ⟨g, 0, none⟩ = some (.string ⟨q.toArray⟩) := (hb.cell (World.block_lt_of_cell? w0 _ hc)).trans hc
  have h2 := r.at0
  have hg := World.block_lt_of_cell? w _ hc
  have hb := Below.refl w.heap.size w
  have he := Lib.hid (eq_strL r.id q)
  show Calls _ _ _ _ fun e w' => e = .returned (.bool (decide (r.id = q))) ∧ Below w.heap.size w w'
  rw [← he.out]
  generalize (⟨q.toArray⟩ : ByteArray) = y at hc he ⊢
  generalize (⟨r.id.toArray⟩ : ByteArray) = x at h2 he ⊢
  go_enter Tryz.func22, Tryz.ntmps22
  go_wp2_with fail
  go_ret
  exact ⟨rfl, hb.alloc hb.size _⟩
def cidxI (p : Cl → Bool) (fs : List Cl) : Int := match fs.findIdx? p with
  | some i => i
  | none => -1
set_option maxHeartbeats 1000000 in
theorem cindex_walk (F : FuncId) (caps : Array Value) (p : Cl → Bool) (w : World) (hF : TellsK F caps w p) (fs : List Cl) (A : Option Addr) (c : Nat) (hr : ClsAt w A c fs) (hm : fs.length ≤ 1000000) :
    Calls Tryz.prog 21 #[.slice A fs.length c, .func (.func F) #[] caps] w fun e w' => e = .returned (.int .i64 (cidxI p fs)) ∧ Below w.heap.size w w' := by
  have hcf := hF.1
  obtain ⟨hc, hr, _⟩ := hr
  go_enter Tryz.func21, Tryz.ntmps21
  go_wp2_with fail
  go_loopw [8] (fun nv wr => ∃ k : Nat, k ≤ fs.length ∧ nv = .int .i64 k ∧ Hid (∀ j, j < k → ∀ r, fs[j]? = some r → p r = false) ∧ Below w.heap.size w wr) (fun nv _ => fs.length - (intOf nv).toNat)
  case atStart => exact ⟨0, by omega, rfl, fun j hj => by omega, Below.refl _ _⟩
  case round =>
    obtain ⟨k, hk, rfl, hno, hbl⟩ := hrel
    by_cases hlt : k < fs.length
    · obtain ⟨ad, rfl⟩ : ∃ ad, A = some ad := by obtain ⟨ad, h, _⟩ := hr.2 (by omega); exact ⟨ad, h⟩
      obtain ⟨r, hrk⟩ : ∃ r, fs[k]? = some r := ⟨fs[k], List.getElem?_eq_getElem hlt⟩
      have hra := Lib.hid (cl_at (hr.below hbl) hrk)
      have cF := Lib.hid (hF.2 r _ hbl)
      go_wp2_with (refine wpList_load_cl rfl _ rfl (ad.add (k * 4)) rfl r hra.out ?_)
      refine cF.out.mono ?_
      rintro _ w1 ⟨rfl, hbn⟩
      have hb2 : Below w.heap.size w w1 := below_next hbl hbn
      cases hp : p r
      · have HN : Hid (∀ j, j < k + 1 → ∀ r, fs[j]? = some r → p r = false) := by
          show ∀ j, j < k + 1 → _
          intro j hj r' hr'
          rcases Nat.lt_or_ge j k with h | h
          · exact hno.out j h r' hr'
          · rw [show j = k by omega, hrk] at hr'
            injection hr' with e
            rw [← e]; exact hp
        go_wp2_with fail
        exact ⟨⟨k + 1, by omega, by go_num, HN, hb2⟩, by simp [intOf]; omega⟩
      · have hv : Hid (cidxI p fs = (k : Int)) := by show _ = _; rw [cidxI, cidx_some hno.out hrk hp]
        go_wp2_with fail
        go_ret
        exact ⟨by rw [hv.out]; rfl, hb2⟩
    · obtain rfl : k = fs.length := by omega
      have hv : Hid (cidxI p fs = -1) := by show _ = _; rw [cidxI, cidx_none hno.out]
      go_wp2_with fail
      go_ret
      exact ⟨by rw [hv.out]; rfl, hbl⟩
set_option maxHeartbeats 1000000 in
theorem find_walk (q : List UInt8) (cs : List Cl) (A : Option Addr) (c : Nat) (w : World) (hr : ClsAt w A c cs) (hm : cs.length ≤ 1000000) :
    Calls Tryz.prog 11 #[.slice A cs.length c, .string ⟨q.toArray⟩] w fun e w' => e = .returned (findV q cs) ∧ Below w.heap.size w w' := by
  have hb1 := (Below.refl w.heap.size w).alloc (Nat.le_refl _) (.cells #[.string ⟨q.toArray⟩] 9)
  have hk := Blk.new w 9 #[.string ⟨q.toArray⟩]
  have ci := Lib.hid (cindex_walk _ _ (isId q) _ (find1_walk w.heap.size q _ (hk.cell 0)) cs A c (hr.below hb1) hm)
  have HB1 := Lib.hid hb1
  have hmf : ∀ (fn : Fn) (first cap : Array Value) (w : World), (Instr.makeFunc fn first cap).run Tryz.prog w = .ok (.func fn first cap) w := fun _ _ _ _ => rfl
  have HV : Hid (findV q cs = match findI q cs with | some k => .tuple #[.int .i64 ((k : Int) + 1), .bool true] | none => .tuple #[.int .i64 0, .bool false]) := rfl
  have hI : cidxI (isId q) cs = match findI q cs with | some i => (i : Int) | none => -1 := rfl
  have hlt : ∀ k, findI q cs = some k → k < cs.length := fun k h => by obtain ⟨c, h1, _⟩ := findI_lt h; exact (List.getElem?_eq_some_iff.1 h1).1
  rw [hI] at ci
  clear hb1 hk hr hI
  cases hf : findI q cs with
  | none =>
    rw [hf] at ci HV
    clear hf hlt
    go_enter Tryz.func11, Tryz.ntmps11
    go_wp2_with fail
    refine ci.out.mono ?_
    rintro _ w1 ⟨rfl, hbn⟩
    have HB2 := Lib.hid (below_next HB1.out hbn)
    clear hbn
    go_wp2_with fail
    go_ret2
    exact ⟨by rw [HV.out]; rfl, HB2.out⟩
  | some k =>
    rw [hf] at ci HV
    have hkl := hlt k hf
    clear hf hlt
    go_enter Tryz.func11, Tryz.ntmps11
    go_wp2_with fail
    refine ci.out.mono ?_
    rintro _ w1 ⟨rfl, hbn⟩
    have HB2 := Lib.hid (below_next HB1.out hbn)
    clear hbn
    go_wp2_with fail
    go_ret2
    exact ⟨by rw [HV.out]; rfl, HB2.out⟩
theorem cl_id {w : World} {B n : Nat} {ad : Addr} {fs : List Cl} (h : Reads w B 4 (some ad) n (cCells fs)) {k : Nat} {f : Cl} (hk : fs[k]? = some f) : w.cell? (ad.add (k * 4)) = some (.string ⟨f.id.toArray⟩) := by
  have := cl_at h hk 0 _ rfl
  rwa [add_of_add, Nat.add_zero] at this
set_option maxHeartbeats 1000000 in
theorem rfind_walk (q : List UInt8) (cs : List Cl) (A : Option Addr) (c : Nat) (w : World) (hr : ClsAt w A c cs) (hm : cs.length ≤ 1000000) :
    Calls Tryz.prog 17 #[.slice A cs.length c, .string ⟨q.toArray⟩] w fun e w' => e = .returned (findV q cs) ∧ w = w' := by
  obtain ⟨hc, hr, _⟩ := hr
  go_enter Tryz.func17, Tryz.ntmps17
  go_wp2_with fail
  go_loopw [6] (fun nv wr => ∃ k : Nat, k ≤ cs.length ∧ nv = .int .i64 k ∧ Hid (∀ j, j < k → ∀ r, cs[j]? = some r → isId q r = false) ∧ w = wr) (fun nv _ => cs.length - (intOf nv).toNat)
  case atStart => exact ⟨0, by omega, rfl, fun j hj => by omega, rfl⟩
  case round =>
    obtain ⟨k, hk, rfl, hno, rfl⟩ := hrel
    by_cases hlt : k < cs.length
    · obtain ⟨ad, rfl⟩ : ∃ ad, A = some ad := by obtain ⟨ad, h, _⟩ := hr.2 (by omega); exact ⟨ad, h⟩
      obtain ⟨r, hrk⟩ : ∃ r, cs[k]? = some r := ⟨cs[k], List.getElem?_eq_getElem hlt⟩
      have hid := cl_id hr hrk
      have he := eq_strL r.id q
      rw [show decide (r.id = q) = isId q r from rfl] at he
      generalize (⟨q.toArray⟩ : ByteArray) = y at he ⊢
      generalize hx : (⟨r.id.toArray⟩ : ByteArray) = x at he hid
      clear hx
      cases hp : isId q r
      · have HN : Hid (∀ j, j < k + 1 → ∀ r, cs[j]? = some r → isId q r = false) := by
          show ∀ j, j < k + 1 → _
          intro j hj r' hr'
          rcases Nat.lt_or_ge j k with h | h
          · exact hno.out j h r' hr'
          · rw [show j = k by omega, hrk] at hr'
            injection hr' with e
            rw [← e]; exact hp
        rw [hp] at he
        clear hp
        go_wp2_with fail
        exact ⟨⟨k + 1, by omega, by go_num, HN, trivial⟩, by simp [intOf]; omega⟩
      · have hv : Hid (findV q cs = .tuple #[.int .i64 ((k : Int) + 1), .bool true]) := by show _ = _; rw [findV, findI, cidx_some hno.out hrk hp]
        rw [hp] at he
        clear hp
        go_wp2_with fail
        go_ret2
        exact ⟨by rw [hv.out]; rfl, rfl⟩
    · obtain rfl : k = cs.length := by omega
      have hv : Hid (findV q cs = .tuple #[.int .i64 0, .bool false]) := by show _ = _; rw [findV, findI, cidx_none hno.out]
      go_wp2_with fail
      go_ret2
      exact ⟨by rw [hv.out]; rfl, rfl⟩
set_option maxHeartbeats 1000000 in
theorem knows_walk (f : Cl) (q : List UInt8) (w : World) (hr : StrsAt w f.ra f.rc f.red) (hm : f.red.length ≤ 1000000) :
    Calls Tryz.prog 12 #[.agg f.arr, .string ⟨q.toArray⟩] w fun e w' => e = .returned (.bool (f.red.contains q)) ∧ Below w.heap.size w w' := by
  have hb1 := (Below.refl w.heap.size w).alloc (Nat.le_refl _) (.cells f.arr 31)
  have hk := Blk.new w 31 f.arr
  have hr1 := hr.below hb1
  have cc := Lib.hid (scontains_walk f.ra f.red.length f.rc _ f.red q _ hr1.2 rfl hr1.1 (by omega))
  have HB1 := Lib.hid hb1
  have hc2 : (w.alloc (.cells f.arr 31)).cell? ⟨w.heap.size, 2, none⟩ = some (.slice f.ra f.red.length f.rc) := hk.cell 2
  have h2 := f.at2
  clear hb1 hk hr hr1
  generalize f.red.contains q = b at cc ⊢
  go_enter Tryz.func12, Tryz.ntmps12
  go_wp2_with fail
  refine cc.out.mono ?_
  rintro _ w1 ⟨rfl, rfl⟩
  go_wp2_with fail
  go_ret
  exact ⟨rfl, HB1.out⟩
end Go.Proofs.YtekbdfnbnpmclaaGreatDoor
