import Derived.Test.YteoofilgkbinnaaDoorPi
import Derived.Test.YteoofilgkbinnaaDoorIn
import Derived.Deep.RegionHeld3
set_option linter.unusedVariables false
namespace Go.Proofs.YteoofilgkbinnaaDoor
open Go.RowKit Pc
theorem encB_pos (form : Bool) (b : UInt8) : 1 ≤ (encB form b).length := by
  unfold encB
  split
  · simp
  · split <;> simp
theorem encL_ge (form : Bool) : ∀ l : List UInt8, l.length ≤ (encL form l).length
  | [] => by simp [encL]
  | a :: l => by
    rw [encL_cons, List.length_append, List.length_cons]
    have := encL_ge form l
    have := encB_pos form a
    omega
theorem decV_ok {form : Bool} {l : List UInt8} : (∃ b : List UInt8, decL form l = some b ∧ encL form b = l) ∨ decL form l = none := by
  cases h : decL form l with
  | none => exact .inr rfl
  | some b => exact .inl ⟨b, rfl, (decL_is form l.length l b (Nat.le_refl _) h).1⟩
set_option maxHeartbeats 4000000 in
set_option maxRecDepth 100000 in
theorem pctAll_walk (raw : ByteArray) (A : Option Addr) (c : Nat) (zs : List Int) (form : Bool) (w : World) (hd : DigOk w) (hr : IntsIn w A c zs) (hm : raw.size ≤ 9223372036854775807) :
    Calls Tryd.prog 3 #[.string raw, .slice A zs.length c, .bool form] w fun e w' => e = .returned (.bool true) ∧ Below w.heap.size w w' := by
  have HD := Lib.hid hd
  clear hd
  have HR := Lib.hid hr
  clear hr
  have hb := Below.refl w.heap.size w
  by_cases h1 : 300 < raw.size
  · go_enter Tryd.func3, Tryd.ntmps3
    go_wp2_with fail
    refine (known7_walk _ (HD.out.below hb)).mono ?_
    rintro _ w1 ⟨rfl, hbn⟩
    replace hb := below_next hb hbn
    clear hbn
    go_wp2_with fail
    go_ret
    exact ⟨rfl, hb⟩
  obtain ⟨lr, hlr⟩ : ∃ lr, raw.data.toList = lr := ⟨_, rfl⟩
  have sr : lr.length = raw.size := by rw [← hlr, Lib.size_eq]
  have er := encSize (!form) lr
  have cR := Lib.hid (fun W => renc_walk raw lr hlr (!form) W (by omega))
  obtain ⟨er2, her⟩ : ∃ er2, ByteArray.mk (encL (!form) lr).toArray = er2 := ⟨_, rfl⟩
  rw [her] at cR er
  clear her hlr
  have er3 : er2.size ≤ 900 := by omega
  clear er sr
  go_enter Tryd.func3, Tryd.ntmps3
  go_wp2_with fail
  refine (known7_walk _ (HD.out.below hb)).mono ?_
  rintro _ w1 ⟨rfl, hbn⟩
  replace hb := below_next hb hbn
  clear hbn
  go_wp2_with fail
  refine (some_in 20 (by omega) (HR.out.below hb)).mono ?_
  rintro _ w2 ⟨s1, hs1, rfl, hbn⟩
  replace hb := below_next hb hbn
  clear hbn
  obtain ⟨ls, hls⟩ : ∃ ls, s1.data.toList = ls := ⟨_, rfl⟩
  have ss : ls.length = s1.size := by rw [← hls, Lib.size_eq]
  have es := encSize form ls
  have cS := Lib.hid (fun W => renc_walk s1 ls hls form W (by omega))
  obtain ⟨es2, hes⟩ : ∃ es2, ByteArray.mk (encL form ls).toArray = es2 := ⟨_, rfl⟩
  rw [hes] at cS es
  clear hes hls
  have es3 : es2.size ≤ 300 := by omega
  clear es ss
  go_wp2_with fail
  refine (cS.out _).mono ?_
  rintro _ w1 ⟨rfl, hbn⟩
  replace hb := below_next hb hbn
  clear hbn
  go_wp2_with fail
  refine (cR.out _).mono ?_
  rintro _ w3 ⟨rfl, hbn⟩
  replace hb := below_next hb hbn
  clear hbn
  go_wp2_with fail
  go_loopw [9] (fun nv wr => ∃ i : Nat, i ≤ 4 ∧ nv = .int .i64 i ∧ Hid (Blk wr w3.heap.size 9 #[.string raw, .string s1, .string (es2 ++ raw), .string er2]) ∧ Below w.heap.size w wr) (fun nv _ => 4 - (intOf nv).toNat)
  case atStart => exact ⟨0, by omega, rfl, Blk.new _ _ _, hb.alloc hb.size _⟩
  case round =>
    clear hb
    obtain ⟨i, hi, rfl, hblk, hb0⟩ := hrel
    have HB0 := Lib.hid hb0
    have HDr := Lib.hid (HD.out.below hb0)
    have hb := Below.refl wr.heap.size wr
    clear hb0
    by_cases hlt : i < 4
    · obtain ⟨x, hx, hcell⟩ := blk4 (m := 2000) hblk.out (by omega) (by omega) (by simp; omega) (by omega) hlt
      have hw2 := Lib.hid (show w3.heap.size < wr.heap.size from hblk.out.lt)
      have cD := Lib.hid (fun W hd => dec_walk x _ rfl form W hd (by omega))
      have cRD := Lib.hid (fun W => rdec_walk x _ rfl form W (by omega))
      have cE := Lib.hid (fun W hd => enc_walk x _ rfl form W hd (by omega))
      have cRE := Lib.hid (fun W => renc_walk x _ rfl form W (by omega))
      obtain ⟨ex, hex⟩ : ∃ ex, ByteArray.mk (encL form x.data.toList).toArray = ex := ⟨_, rfl⟩
      rw [hex] at cE cRE
      clear hex
      have hcell2 := Lib.hid (fun W (h : Below wr.heap.size wr W) => (h.cell (p := ⟨w3.heap.size, i, none⟩) hw2.out).trans hcell)
      have HS := Lib.hid (fun W W' (h : Below wr.heap.size wr W ∧ W.cell? ⟨w3.heap.size, i, none⟩ = some (.string x)) (hb : Below W.heap.size W W') => (⟨below_next h.1 hb, hcell2.out _ (below_next h.1 hb)⟩ : Below wr.heap.size wr W' ∧ W'.cell? ⟨w3.heap.size, i, none⟩ = some (.string x)))
      cases hdl : decL form x.data.toList with
      | none =>
        rw [hdl] at cD cRD
        rw [decV] at cD cRD
        clear hdl
        go_wp2_with fail
        refine (cD.out _ (HDr.out.below hb)).mono ?_
        rintro _ w1 ⟨rfl, hbn⟩
        replace hb := below_next hb hbn
        clear hbn
        have hc1 := hcell2.out _ hb
        go_wp2_with fail
        refine (cRD.out _).mono ?_
        rintro _ w1 ⟨rfl, hbn⟩
        replace hb := below_next hb hbn
        clear hbn
        have hc2 := hcell2.out _ hb
        go_wp2_with fail
        have hS0 : Below wr.heap.size wr w1.drew ∧ w1.drew.cell? ⟨w3.heap.size, i, none⟩ = some (.string x) := ⟨below_drewN hb 1, hc2⟩
        clear hb hc1 hc2
        go_region_held3 (fun W => Below wr.heap.size wr W ∧ W.cell? ⟨w3.heap.size, i, none⟩ = some (.string x)) (assumption) (first
          | (go_at_call 12; refine (cE.out _ (HDr.out.below (And.left (by assumption)))).mono ?_; rintro _ w5 ⟨rfl, hbn⟩; have hS2 := HS.out _ _ (by assumption) hbn; clear hbn)
          | (go_at_call 9; refine (cRE.out _).mono ?_; rintro _ w5 ⟨rfl, hbn⟩; have hS2 := HS.out _ _ (by assumption) hbn; clear hbn))
        all_goals
          go_wp2_with fail
          exact ⟨⟨i + 1, by omega, by go_num, hblk.out.below (And.left (by assumption)) hw2.out, below_next HB0.out (And.left (by assumption))⟩, by simp [intOf]; omega⟩
      | some b =>
        rw [hdl] at cD cRD
        rw [decV] at cD cRD
        clear hdl
        go_wp2_with fail
        refine (cD.out _ (HDr.out.below hb)).mono ?_
        rintro _ w1 ⟨rfl, hbn⟩
        replace hb := below_next hb hbn
        clear hbn
        have hc1 := hcell2.out _ hb
        go_wp2_with fail
        refine (cRD.out _).mono ?_
        rintro _ w1 ⟨rfl, hbn⟩
        replace hb := below_next hb hbn
        clear hbn
        have hc2 := hcell2.out _ hb
        go_wp2_with fail
        have hS0 : Below wr.heap.size wr w1.drew ∧ w1.drew.cell? ⟨w3.heap.size, i, none⟩ = some (.string x) := ⟨below_drewN hb 1, hc2⟩
        clear hb hc1 hc2
        go_region_held3 (fun W => Below wr.heap.size wr W ∧ W.cell? ⟨w3.heap.size, i, none⟩ = some (.string x)) (assumption) (first
          | (go_at_call 12; refine (cE.out _ (HDr.out.below (And.left (by assumption)))).mono ?_; rintro _ w5 ⟨rfl, hbn⟩; have hS2 := HS.out _ _ (by assumption) hbn; clear hbn)
          | (go_at_call 9; refine (cRE.out _).mono ?_; rintro _ w5 ⟨rfl, hbn⟩; have hS2 := HS.out _ _ (by assumption) hbn; clear hbn))
        all_goals
          go_wp2_with fail
          exact ⟨⟨i + 1, by omega, by go_num, hblk.out.below (And.left (by assumption)) hw2.out, below_next HB0.out (And.left (by assumption))⟩, by simp [intOf]; omega⟩
    · go_wp2_with fail
      go_ret
      exact ⟨rfl, HB0.out⟩
end Go.Proofs.YteoofilgkbinnaaDoor
