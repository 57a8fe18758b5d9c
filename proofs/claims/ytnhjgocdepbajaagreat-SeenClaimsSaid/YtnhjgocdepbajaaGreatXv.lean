/- countersignref22.issued. No condition of its own. -/
import Derived.Test.YtnhjgocdepbajaaGreatB2
set_option linter.unusedVariables false
set_option linter.unusedSimpArgs false
set_option maxRecDepth 20000
namespace Go.Proofs.YtnhjgocdepbajaaGreat
open Go.RowKit S19 C17 R
theorem putL_len (rs : List Rc) (now : Int) (r : Rc) : (putL rs now r).length ≤ rs.length + 1 := by
 unfold putL
 have := liveL_le now rs
 split
 ·
  simp; omega
 ·
  omega
theorem NewRow.trans {w0 w : World} {A0 A1 A2 : Option Addr} {c0 c1 c2 : Nat} {rs0 rs1 rs2 : List Rc} (h : NewRow w0 A0 A1 c0 c1 rs0 rs1) (hs : w0.heap.size ≤ w.heap.size) (k : NewRow w A1 A2 c1 c2 rs1 rs2) : NewRow w0 A0 A2 c0 c2 rs0 rs2 := by
 rcases k with ⟨rfl, rfl, rfl⟩ | k
 ·
  exact h
 ·
  exact .inr fun ad e => Nat.le_trans hs (k ad e)
theorem NewRow.up {w w1 : World} {A0 A : Option Addr} {c0 c : Nat} {rs0 rs : List Rc} (hs : w.heap.size ≤ w1.heap.size) (h : NewRow w1 A0 A c0 c rs0 rs) : NewRow w A0 A c0 c rs0 rs := h.imp id fun k ad e => Nat.le_trans hs (k ad e)
def IssR (b : Bs) (cl : List Cl) (CA : Option Addr) (cc : Nat) (UA : Option Addr) (uc : Nat) (RA : Option Addr) (rc : Nat) (rs : List Rc) (x : List Rc × Sr × Gr × Int) (w : World) (e : Ending) (w' : World) : Prop :=
 ∃ v, e = .returned (.tuple #[v, .agg x.2.1.arr, .agg x.2.2.1.arr, .int .i64 x.2.2.2]) ∧ StR b cl CA cc UA uc RA rc rs x.1 w w' v
theorem drew_on {s : Sr} (h : drawB s = true) : drawS s = { s with n := s.n + 1 } ∧ drawK s = s.n ∧ s.n ≤ 1073741824 := ⟨by rw [drawS, if_pos h], by rw [drawK, if_pos h], by simpa [drawB] using h⟩
theorem draw_le {s : Sr} (h : s.n ≤ 1500000000) : (drawS s).n ≤ 1500000001 := by
 unfold drawS
 split
 ·
  show s.n + 1 ≤ _; omega
 ·
  omega
theorem draw_ge {s : Sr} (h : 0 ≤ s.n) : 0 ≤ (drawS s).n := by
 unfold drawS
 split
 ·
  show 0 ≤ s.n + 1; omega
 ·
  omega
theorem zero_or (m : Int) : (m = 0) ∨ ((m == 0) = false ∧ m ≠ 0) := by
 by_cases h : m = 0
 ·
  exact .inl h
 ·
  exact .inr ⟨by simpa using h, h⟩
set_option maxHeartbeats 4000000 in
theorem rissued_walk (b : Bs) (rs : List Rc) (s : Sr) (r : Rc) (words : ByteArray) (cl : List Cl) (CA : Option Addr) (cc : Nat) (UA : Option Addr) (uc : Nat) (RA : Option Addr) (rc : Nat) (w : World) (hr : RecsAt w RA rc rs) (hm : rs.length ≤ 800000)
  (hn : 0 ≤ s.n ∧ s.n ≤ 1500000000) (ht : 0 ≤ s.now ∧ s.now ≤ 1000000000) :
  Calls Tryz.prog 57 #[.agg (stA b.nm b.key CA cl.length cc UA b.us.length uc RA rs.length rc), .agg s.arr, .agg r.arr, .string words] w
   (IssR b cl CA cc UA uc RA rc rs (issuedP rs s r words) w) := by
 have hF := Fr.start w (kp_start hr)
 have HR := Lib.hid hr
 have cn1 := Lib.hid (fun W => rnonce_walk s W (by omega))
 have cn2 := Lib.hid (fun W => rnonce_walk (drawS s) W (by have := draw_le hn.2; have := draw_ge hn.1; omega))
 have cr5 := Lib.hid (fun W h => rroom_walk rs RA rc s.now 5 W h)
 have cr6 := Lib.hid (fun W h => rroom_walk rs RA rc s.now 6 W h)
 have HT := Lib.hid ht
 clear hr hn ht
 by_cases hbad : drawB s = false ∨ drawB (drawS s) = false ∨ roomI rs s.now 5 = 0 ∨ roomI rs s.now 6 = 0
 ·
  have hv : Hid (issuedP rs s r words = (rs, s, gr0, 16)) := by show _ = _; rw [issuedP, if_pos hbad]
  have hcase : drawB s = false ∨ (drawB s = true ∧ drawB (drawS s) = false) ∨ (drawB s = true ∧ drawB (drawS s) = true ∧ roomI rs s.now 5 = 0) ∨ (drawB s = true ∧ drawB (drawS s) = true ∧ (roomI rs s.now 5 == 0) = false ∧ roomI rs s.now 6 = 0) := by
   cases h1 : drawB s
   ·
    exact .inl rfl
   ·
    cases h2 : drawB (drawS s)
    ·
     exact .inr (.inl ⟨rfl, rfl⟩)
    ·
     rcases zero_or (roomI rs s.now 5) with h3 | ⟨h3, h4⟩
     ·
      exact .inr (.inr (.inl ⟨rfl, rfl, h3⟩))
     ·
      refine .inr (.inr (.inr ⟨rfl, rfl, h3, ?_⟩))
      rcases hbad with h | h | h | h
      ·
       rw [h1] at h; cases h
      ·
       rw [h2] at h; cases h
      ·
       exact absurd h h4
      ·
       exact h
  clear hbad
  rcases hcase with h1 | ⟨h1, h2⟩ | ⟨h1, h2, h3⟩ | ⟨h1, h2, h3, h4⟩
  ·
   rw [h1] at cn1
   clear h1
   go_enter Tryz.func57, Tryz.ntmps57
   go_wp2_with (first
    | go_skip
    | (refine aA rfl rfl hF ?_; clear hF; intro gg ww hF; simp only [nf] at hF)
    | (refine aB rfl rfl hF rfl ?_; clear hF; intro gg ww hF; simp only [nf] at hF)
    | (refine iL (t := 3) hF rfl rfl fun ho hx hb => ?_; refine aC (v := .int _ _) ho hb hx hF rfl rfl ?_; clear ho hx hb)
    | (refine iL hF rfl rfl fun ho hx hb => ?_; (first | refine aL ho hb hx hF rfl rfl ?_ | refine aC (v := .slice _ _ _) ho hb hx hF rfl rfl ?_ | refine aC (v := .string _) ho hb hx hF rfl rfl ?_ | refine aC (v := .bool _) ho hb hx hF rfl rfl ?_); clear ho hx hb)
    | (refine iS hF rfl rfl fun ho hx hb => ?_; (first | refine aS ho hb hx hF rfl rfl rfl rfl ?_ | refine aT (v := .int _ _) ho hb hx hF rfl rfl rfl rfl ?_ | refine aT (v := .slice _ _ _) ho hb hx hF rfl rfl rfl rfl ?_ | refine aT (v := .bool _) ho hb hx hF rfl rfl rfl rfl ?_); clear ho hx hb hF; intro ww hF; simp only [nf] at hF)
    )
   refine (cn1.out _).mono ?_
   rintro _ w1 ⟨rfl, hbn⟩
   replace hF := hF.call hbn
   clear hbn
   go_wp2_with (first
    | go_skip
    | (refine aA rfl rfl hF ?_; clear hF; intro gg ww hF; simp only [nf] at hF)
    | (refine aB rfl rfl hF rfl ?_; clear hF; intro gg ww hF; simp only [nf] at hF)
    | (refine iL (t := 3) hF rfl rfl fun ho hx hb => ?_; refine aC (v := .int _ _) ho hb hx hF rfl rfl ?_; clear ho hx hb)
    | (refine iL hF rfl rfl fun ho hx hb => ?_; (first | refine aL ho hb hx hF rfl rfl ?_ | refine aC (v := .slice _ _ _) ho hb hx hF rfl rfl ?_ | refine aC (v := .string _) ho hb hx hF rfl rfl ?_ | refine aC (v := .bool _) ho hb hx hF rfl rfl ?_); clear ho hx hb)
    | (refine iS hF rfl rfl fun ho hx hb => ?_; (first | refine aS ho hb hx hF rfl rfl rfl rfl ?_ | refine aT (v := .int _ _) ho hb hx hF rfl rfl rfl rfl ?_ | refine aT (v := .slice _ _ _) ho hb hx hF rfl rfl rfl rfl ?_ | refine aT (v := .bool _) ho hb hx hF rfl rfl rfl rfl ?_); clear ho hx hb hF; intro ww hF; simp only [nf] at hF)
    )
   refine (cn2.out _).mono ?_
   rintro _ w2 ⟨rfl, hbn⟩
   replace hF := hF.call hbn
   clear hbn
   go_wp2_with (first
    | go_skip
    | (refine aA rfl rfl hF ?_; clear hF; intro gg ww hF; simp only [nf] at hF)
    | (refine aB rfl rfl hF rfl ?_; clear hF; intro gg ww hF; simp only [nf] at hF)
    | (refine iL (t := 3) hF rfl rfl fun ho hx hb => ?_; refine aC (v := .int _ _) ho hb hx hF rfl rfl ?_; clear ho hx hb)
    | (refine iL hF rfl rfl fun ho hx hb => ?_; (first | refine aL ho hb hx hF rfl rfl ?_ | refine aC (v := .slice _ _ _) ho hb hx hF rfl rfl ?_ | refine aC (v := .string _) ho hb hx hF rfl rfl ?_ | refine aC (v := .bool _) ho hb hx hF rfl rfl ?_); clear ho hx hb)
    | (refine iS hF rfl rfl fun ho hx hb => ?_; (first | refine aS ho hb hx hF rfl rfl rfl rfl ?_ | refine aT (v := .int _ _) ho hb hx hF rfl rfl rfl rfl ?_ | refine aT (v := .slice _ _ _) ho hb hx hF rfl rfl rfl rfl ?_ | refine aT (v := .bool _) ho hb hx hF rfl rfl rfl rfl ?_); clear ho hx hb hF; intro ww hF; simp only [nf] at hF)
    )
   refine rgw [] [_, _] hF (.cons_cons _ (.cons_cons _ (.cons _ (.cons _ (.cons _ (.cons _ (.cons _ .slnil))))))) fun hF => ?_
   refine tkb 0 0 [] rfl rfl rfl rfl rfl ?_
   try simp only [nrm, Act.put]
   refine tkb 1 1 [] rfl rfl rfl rfl rfl ?_
   try simp only [nrm, Act.put]
   refine tkf 2 rfl ?_
   try simp only [nrm, Act.put]
   refine stw 3 3 hF rfl rfl rfl rfl rfl rfl rfl rfl ?_
   clear hF; intro ww hF; simp only [nf] at hF
   try simp only [nrm, Act.put]
   refine stw 4 4 hF rfl rfl rfl rfl rfl rfl rfl rfl ?_
   clear hF; intro ww hF; simp only [nf] at hF
   try simp only [nrm, Act.put]
   refine stw 5 5 hF rfl rfl rfl rfl rfl rfl rfl rfl ?_
   clear hF; intro ww hF; simp only [nf] at hF
   try simp only [nrm, Act.put]
   refine tkf 6 rfl ?_
   try simp only [nrm, Act.put]
   refine dnw ?_
   go_wp2_with (first
    | go_skip
    | (refine aA rfl rfl hF ?_; clear hF; intro gg ww hF; simp only [nf] at hF)
    | (refine aB rfl rfl hF rfl ?_; clear hF; intro gg ww hF; simp only [nf] at hF)
    | (refine iL (t := 3) hF rfl rfl fun ho hx hb => ?_; refine aC (v := .int _ _) ho hb hx hF rfl rfl ?_; clear ho hx hb)
    | (refine iL hF rfl rfl fun ho hx hb => ?_; (first | refine aL ho hb hx hF rfl rfl ?_ | refine aC (v := .slice _ _ _) ho hb hx hF rfl rfl ?_ | refine aC (v := .string _) ho hb hx hF rfl rfl ?_ | refine aC (v := .bool _) ho hb hx hF rfl rfl ?_); clear ho hx hb)
    | (refine iS hF rfl rfl fun ho hx hb => ?_; (first | refine aS ho hb hx hF rfl rfl rfl rfl ?_ | refine aT (v := .int _ _) ho hb hx hF rfl rfl rfl rfl ?_ | refine aT (v := .slice _ _ _) ho hb hx hF rfl rfl rfl rfl ?_ | refine aT (v := .bool _) ho hb hx hF rfl rfl rfl rfl ?_); clear ho hx hb hF; intro ww hF; simp only [nf] at hF)
    )
   refine bodyPost_ret (results4 Tryz.results57 (res_cell 3 hF rfl rfl rfl) (res_cell 4 hF rfl rfl rfl) (res_cell 5 hF rfl rfl rfl) (.tmp _)) rfl ⟨_, by rw [hv.out]; rfl, ?_⟩
   rw [hv.out]
   show StR b cl CA cc UA uc RA rc rs rs w _ _
   exact StR.same HR.out hF.below
  ·
   rw [h1] at cn1
   rw [h2] at cn2
   clear h1 h2
   go_enter Tryz.func57, Tryz.ntmps57
   go_wp2_with (first
    | go_skip
    | (refine aA rfl rfl hF ?_; clear hF; intro gg ww hF; simp only [nf] at hF)
    | (refine aB rfl rfl hF rfl ?_; clear hF; intro gg ww hF; simp only [nf] at hF)
    | (refine iL (t := 3) hF rfl rfl fun ho hx hb => ?_; refine aC (v := .int _ _) ho hb hx hF rfl rfl ?_; clear ho hx hb)
    | (refine iL hF rfl rfl fun ho hx hb => ?_; (first | refine aL ho hb hx hF rfl rfl ?_ | refine aC (v := .slice _ _ _) ho hb hx hF rfl rfl ?_ | refine aC (v := .string _) ho hb hx hF rfl rfl ?_ | refine aC (v := .bool _) ho hb hx hF rfl rfl ?_); clear ho hx hb)
    | (refine iS hF rfl rfl fun ho hx hb => ?_; (first | refine aS ho hb hx hF rfl rfl rfl rfl ?_ | refine aT (v := .int _ _) ho hb hx hF rfl rfl rfl rfl ?_ | refine aT (v := .slice _ _ _) ho hb hx hF rfl rfl rfl rfl ?_ | refine aT (v := .bool _) ho hb hx hF rfl rfl rfl rfl ?_); clear ho hx hb hF; intro ww hF; simp only [nf] at hF)
    )
   refine (cn1.out _).mono ?_
   rintro _ w1 ⟨rfl, hbn⟩
   replace hF := hF.call hbn
   clear hbn
   go_wp2_with (first
    | go_skip
    | (refine aA rfl rfl hF ?_; clear hF; intro gg ww hF; simp only [nf] at hF)
    | (refine aB rfl rfl hF rfl ?_; clear hF; intro gg ww hF; simp only [nf] at hF)
    | (refine iL (t := 3) hF rfl rfl fun ho hx hb => ?_; refine aC (v := .int _ _) ho hb hx hF rfl rfl ?_; clear ho hx hb)
    | (refine iL hF rfl rfl fun ho hx hb => ?_; (first | refine aL ho hb hx hF rfl rfl ?_ | refine aC (v := .slice _ _ _) ho hb hx hF rfl rfl ?_ | refine aC (v := .string _) ho hb hx hF rfl rfl ?_ | refine aC (v := .bool _) ho hb hx hF rfl rfl ?_); clear ho hx hb)
    | (refine iS hF rfl rfl fun ho hx hb => ?_; (first | refine aS ho hb hx hF rfl rfl rfl rfl ?_ | refine aT (v := .int _ _) ho hb hx hF rfl rfl rfl rfl ?_ | refine aT (v := .slice _ _ _) ho hb hx hF rfl rfl rfl rfl ?_ | refine aT (v := .bool _) ho hb hx hF rfl rfl rfl rfl ?_); clear ho hx hb hF; intro ww hF; simp only [nf] at hF)
    )
   refine (cn2.out _).mono ?_
   rintro _ w2 ⟨rfl, hbn⟩
   replace hF := hF.call hbn
   clear hbn
   go_wp2_with (first
    | go_skip
    | (refine aA rfl rfl hF ?_; clear hF; intro gg ww hF; simp only [nf] at hF)
    | (refine aB rfl rfl hF rfl ?_; clear hF; intro gg ww hF; simp only [nf] at hF)
    | (refine iL (t := 3) hF rfl rfl fun ho hx hb => ?_; refine aC (v := .int _ _) ho hb hx hF rfl rfl ?_; clear ho hx hb)
    | (refine iL hF rfl rfl fun ho hx hb => ?_; (first | refine aL ho hb hx hF rfl rfl ?_ | refine aC (v := .slice _ _ _) ho hb hx hF rfl rfl ?_ | refine aC (v := .string _) ho hb hx hF rfl rfl ?_ | refine aC (v := .bool _) ho hb hx hF rfl rfl ?_); clear ho hx hb)
    | (refine iS hF rfl rfl fun ho hx hb => ?_; (first | refine aS ho hb hx hF rfl rfl rfl rfl ?_ | refine aT (v := .int _ _) ho hb hx hF rfl rfl rfl rfl ?_ | refine aT (v := .slice _ _ _) ho hb hx hF rfl rfl rfl rfl ?_ | refine aT (v := .bool _) ho hb hx hF rfl rfl rfl rfl ?_); clear ho hx hb hF; intro ww hF; simp only [nf] at hF)
    )
   refine rgw [] [_, _] hF (.cons_cons _ (.cons_cons _ (.cons _ (.cons _ (.cons _ (.cons _ (.cons _ .slnil))))))) fun hF => ?_
   refine tkb 0 0 [] rfl rfl rfl rfl rfl ?_
   try simp only [nrm, Act.put]
   refine tkb 1 1 [] rfl rfl rfl rfl rfl ?_
   try simp only [nrm, Act.put]
   refine tkf 2 rfl ?_
   try simp only [nrm, Act.put]
   refine stw 3 3 hF rfl rfl rfl rfl rfl rfl rfl rfl ?_
   clear hF; intro ww hF; simp only [nf] at hF
   try simp only [nrm, Act.put]
   refine stw 4 4 hF rfl rfl rfl rfl rfl rfl rfl rfl ?_
   clear hF; intro ww hF; simp only [nf] at hF
   try simp only [nrm, Act.put]
   refine stw 5 5 hF rfl rfl rfl rfl rfl rfl rfl rfl ?_
   clear hF; intro ww hF; simp only [nf] at hF
   try simp only [nrm, Act.put]
   refine tkf 6 rfl ?_
   try simp only [nrm, Act.put]
   refine dnw ?_
   go_wp2_with (first
    | go_skip
    | (refine aA rfl rfl hF ?_; clear hF; intro gg ww hF; simp only [nf] at hF)
    | (refine aB rfl rfl hF rfl ?_; clear hF; intro gg ww hF; simp only [nf] at hF)
    | (refine iL (t := 3) hF rfl rfl fun ho hx hb => ?_; refine aC (v := .int _ _) ho hb hx hF rfl rfl ?_; clear ho hx hb)
    | (refine iL hF rfl rfl fun ho hx hb => ?_; (first | refine aL ho hb hx hF rfl rfl ?_ | refine aC (v := .slice _ _ _) ho hb hx hF rfl rfl ?_ | refine aC (v := .string _) ho hb hx hF rfl rfl ?_ | refine aC (v := .bool _) ho hb hx hF rfl rfl ?_); clear ho hx hb)
    | (refine iS hF rfl rfl fun ho hx hb => ?_; (first | refine aS ho hb hx hF rfl rfl rfl rfl ?_ | refine aT (v := .int _ _) ho hb hx hF rfl rfl rfl rfl ?_ | refine aT (v := .slice _ _ _) ho hb hx hF rfl rfl rfl rfl ?_ | refine aT (v := .bool _) ho hb hx hF rfl rfl rfl rfl ?_); clear ho hx hb hF; intro ww hF; simp only [nf] at hF)
    )
   refine bodyPost_ret (results4 Tryz.results57 (res_cell 3 hF rfl rfl rfl) (res_cell 4 hF rfl rfl rfl) (res_cell 5 hF rfl rfl rfl) (.tmp _)) rfl ⟨_, by rw [hv.out]; rfl, ?_⟩
   rw [hv.out]
   show StR b cl CA cc UA uc RA rc rs rs w _ _
   exact StR.same HR.out hF.below
  ·
   rw [h1] at cn1
   rw [h2] at cn2
   rw [h3] at cr5
   clear h1 h2 h3
   go_enter Tryz.func57, Tryz.ntmps57
   go_wp2_with (first
    | go_skip
    | (refine aA rfl rfl hF ?_; clear hF; intro gg ww hF; simp only [nf] at hF)
    | (refine aB rfl rfl hF rfl ?_; clear hF; intro gg ww hF; simp only [nf] at hF)
    | (refine iL (t := 3) hF rfl rfl fun ho hx hb => ?_; refine aC (v := .int _ _) ho hb hx hF rfl rfl ?_; clear ho hx hb)
    | (refine iL hF rfl rfl fun ho hx hb => ?_; (first | refine aL ho hb hx hF rfl rfl ?_ | refine aC (v := .slice _ _ _) ho hb hx hF rfl rfl ?_ | refine aC (v := .string _) ho hb hx hF rfl rfl ?_ | refine aC (v := .bool _) ho hb hx hF rfl rfl ?_); clear ho hx hb)
    | (refine iS hF rfl rfl fun ho hx hb => ?_; (first | refine aS ho hb hx hF rfl rfl rfl rfl ?_ | refine aT (v := .int _ _) ho hb hx hF rfl rfl rfl rfl ?_ | refine aT (v := .slice _ _ _) ho hb hx hF rfl rfl rfl rfl ?_ | refine aT (v := .bool _) ho hb hx hF rfl rfl rfl rfl ?_); clear ho hx hb hF; intro ww hF; simp only [nf] at hF)
    )
   refine (cn1.out _).mono ?_
   rintro _ w1 ⟨rfl, hbn⟩
   replace hF := hF.call hbn
   clear hbn
   go_wp2_with (first
    | go_skip
    | (refine aA rfl rfl hF ?_; clear hF; intro gg ww hF; simp only [nf] at hF)
    | (refine aB rfl rfl hF rfl ?_; clear hF; intro gg ww hF; simp only [nf] at hF)
    | (refine iL (t := 3) hF rfl rfl fun ho hx hb => ?_; refine aC (v := .int _ _) ho hb hx hF rfl rfl ?_; clear ho hx hb)
    | (refine iL hF rfl rfl fun ho hx hb => ?_; (first | refine aL ho hb hx hF rfl rfl ?_ | refine aC (v := .slice _ _ _) ho hb hx hF rfl rfl ?_ | refine aC (v := .string _) ho hb hx hF rfl rfl ?_ | refine aC (v := .bool _) ho hb hx hF rfl rfl ?_); clear ho hx hb)
    | (refine iS hF rfl rfl fun ho hx hb => ?_; (first | refine aS ho hb hx hF rfl rfl rfl rfl ?_ | refine aT (v := .int _ _) ho hb hx hF rfl rfl rfl rfl ?_ | refine aT (v := .slice _ _ _) ho hb hx hF rfl rfl rfl rfl ?_ | refine aT (v := .bool _) ho hb hx hF rfl rfl rfl rfl ?_); clear ho hx hb hF; intro ww hF; simp only [nf] at hF)
    )
   refine (cn2.out _).mono ?_
   rintro _ w2 ⟨rfl, hbn⟩
   replace hF := hF.call hbn
   clear hbn
   go_wp2_with (first
    | go_skip
    | (refine aA rfl rfl hF ?_; clear hF; intro gg ww hF; simp only [nf] at hF)
    | (refine aB rfl rfl hF rfl ?_; clear hF; intro gg ww hF; simp only [nf] at hF)
    | (refine iL (t := 3) hF rfl rfl fun ho hx hb => ?_; refine aC (v := .int _ _) ho hb hx hF rfl rfl ?_; clear ho hx hb)
    | (refine iL hF rfl rfl fun ho hx hb => ?_; (first | refine aL ho hb hx hF rfl rfl ?_ | refine aC (v := .slice _ _ _) ho hb hx hF rfl rfl ?_ | refine aC (v := .string _) ho hb hx hF rfl rfl ?_ | refine aC (v := .bool _) ho hb hx hF rfl rfl ?_); clear ho hx hb)
    | (refine iS hF rfl rfl fun ho hx hb => ?_; (first | refine aS ho hb hx hF rfl rfl rfl rfl ?_ | refine aT (v := .int _ _) ho hb hx hF rfl rfl rfl rfl ?_ | refine aT (v := .slice _ _ _) ho hb hx hF rfl rfl rfl rfl ?_ | refine aT (v := .bool _) ho hb hx hF rfl rfl rfl rfl ?_); clear ho hx hb hF; intro ww hF; simp only [nf] at hF)
    )
   refine (cr5.out _ hF.data).mono ?_
   rintro _ w3 ⟨rfl, hbn⟩
   replace hF := hF.call hbn
   clear hbn
   go_wp2_with (first
    | go_skip
    | (refine aA rfl rfl hF ?_; clear hF; intro gg ww hF; simp only [nf] at hF)
    | (refine aB rfl rfl hF rfl ?_; clear hF; intro gg ww hF; simp only [nf] at hF)
    | (refine iL (t := 3) hF rfl rfl fun ho hx hb => ?_; refine aC (v := .int _ _) ho hb hx hF rfl rfl ?_; clear ho hx hb)
    | (refine iL hF rfl rfl fun ho hx hb => ?_; (first | refine aL ho hb hx hF rfl rfl ?_ | refine aC (v := .slice _ _ _) ho hb hx hF rfl rfl ?_ | refine aC (v := .string _) ho hb hx hF rfl rfl ?_ | refine aC (v := .bool _) ho hb hx hF rfl rfl ?_); clear ho hx hb)
    | (refine iS hF rfl rfl fun ho hx hb => ?_; (first | refine aS ho hb hx hF rfl rfl rfl rfl ?_ | refine aT (v := .int _ _) ho hb hx hF rfl rfl rfl rfl ?_ | refine aT (v := .slice _ _ _) ho hb hx hF rfl rfl rfl rfl ?_ | refine aT (v := .bool _) ho hb hx hF rfl rfl rfl rfl ?_); clear ho hx hb hF; intro ww hF; simp only [nf] at hF)
    )
   refine rgw [] [_, _] hF (.cons_cons _ (.cons_cons _ (.cons _ (.cons _ (.cons _ (.cons _ (.cons _ .slnil))))))) fun hF => ?_
   refine tkb 0 0 [] rfl rfl rfl rfl rfl ?_
   try simp only [nrm, Act.put]
   refine tkb 1 1 [] rfl rfl rfl rfl rfl ?_
   try simp only [nrm, Act.put]
   refine tkf 2 rfl ?_
   try simp only [nrm, Act.put]
   refine stw 3 3 hF rfl rfl rfl rfl rfl rfl rfl rfl ?_
   clear hF; intro ww hF; simp only [nf] at hF
   try simp only [nrm, Act.put]
   refine stw 4 4 hF rfl rfl rfl rfl rfl rfl rfl rfl ?_
   clear hF; intro ww hF; simp only [nf] at hF
   try simp only [nrm, Act.put]
   refine stw 5 5 hF rfl rfl rfl rfl rfl rfl rfl rfl ?_
   clear hF; intro ww hF; simp only [nf] at hF
   try simp only [nrm, Act.put]
   refine tkf 6 rfl ?_
   try simp only [nrm, Act.put]
   refine dnw ?_
   go_wp2_with (first
    | go_skip
    | (refine aA rfl rfl hF ?_; clear hF; intro gg ww hF; simp only [nf] at hF)
    | (refine aB rfl rfl hF rfl ?_; clear hF; intro gg ww hF; simp only [nf] at hF)
    | (refine iL (t := 3) hF rfl rfl fun ho hx hb => ?_; refine aC (v := .int _ _) ho hb hx hF rfl rfl ?_; clear ho hx hb)
    | (refine iL hF rfl rfl fun ho hx hb => ?_; (first | refine aL ho hb hx hF rfl rfl ?_ | refine aC (v := .slice _ _ _) ho hb hx hF rfl rfl ?_ | refine aC (v := .string _) ho hb hx hF rfl rfl ?_ | refine aC (v := .bool _) ho hb hx hF rfl rfl ?_); clear ho hx hb)
    | (refine iS hF rfl rfl fun ho hx hb => ?_; (first | refine aS ho hb hx hF rfl rfl rfl rfl ?_ | refine aT (v := .int _ _) ho hb hx hF rfl rfl rfl rfl ?_ | refine aT (v := .slice _ _ _) ho hb hx hF rfl rfl rfl rfl ?_ | refine aT (v := .bool _) ho hb hx hF rfl rfl rfl rfl ?_); clear ho hx hb hF; intro ww hF; simp only [nf] at hF)
    )
   refine bodyPost_ret (results4 Tryz.results57 (res_cell 3 hF rfl rfl rfl) (res_cell 4 hF rfl rfl rfl) (res_cell 5 hF rfl rfl rfl) (.tmp _)) rfl ⟨_, by rw [hv.out]; rfl, ?_⟩
   rw [hv.out]
   show StR b cl CA cc UA uc RA rc rs rs w _ _
   exact StR.same HR.out hF.below
  ·
   rw [h1] at cn1
   rw [h2] at cn2
   rw [h4] at cr6
   clear h1 h2 h4
   go_enter Tryz.func57, Tryz.ntmps57
   go_wp2_with (first
    | go_skip
    | (refine aA rfl rfl hF ?_; clear hF; intro gg ww hF; simp only [nf] at hF)
    | (refine aB rfl rfl hF rfl ?_; clear hF; intro gg ww hF; simp only [nf] at hF)
    | (refine iL (t := 3) hF rfl rfl fun ho hx hb => ?_; refine aC (v := .int _ _) ho hb hx hF rfl rfl ?_; clear ho hx hb)
    | (refine iL hF rfl rfl fun ho hx hb => ?_; (first | refine aL ho hb hx hF rfl rfl ?_ | refine aC (v := .slice _ _ _) ho hb hx hF rfl rfl ?_ | refine aC (v := .string _) ho hb hx hF rfl rfl ?_ | refine aC (v := .bool _) ho hb hx hF rfl rfl ?_); clear ho hx hb)
    | (refine iS hF rfl rfl fun ho hx hb => ?_; (first | refine aS ho hb hx hF rfl rfl rfl rfl ?_ | refine aT (v := .int _ _) ho hb hx hF rfl rfl rfl rfl ?_ | refine aT (v := .slice _ _ _) ho hb hx hF rfl rfl rfl rfl ?_ | refine aT (v := .bool _) ho hb hx hF rfl rfl rfl rfl ?_); clear ho hx hb hF; intro ww hF; simp only [nf] at hF)
    )
   refine (cn1.out _).mono ?_
   rintro _ w1 ⟨rfl, hbn⟩
   replace hF := hF.call hbn
   clear hbn
   go_wp2_with (first
    | go_skip
    | (refine aA rfl rfl hF ?_; clear hF; intro gg ww hF; simp only [nf] at hF)
    | (refine aB rfl rfl hF rfl ?_; clear hF; intro gg ww hF; simp only [nf] at hF)
    | (refine iL (t := 3) hF rfl rfl fun ho hx hb => ?_; refine aC (v := .int _ _) ho hb hx hF rfl rfl ?_; clear ho hx hb)
    | (refine iL hF rfl rfl fun ho hx hb => ?_; (first | refine aL ho hb hx hF rfl rfl ?_ | refine aC (v := .slice _ _ _) ho hb hx hF rfl rfl ?_ | refine aC (v := .string _) ho hb hx hF rfl rfl ?_ | refine aC (v := .bool _) ho hb hx hF rfl rfl ?_); clear ho hx hb)
    | (refine iS hF rfl rfl fun ho hx hb => ?_; (first | refine aS ho hb hx hF rfl rfl rfl rfl ?_ | refine aT (v := .int _ _) ho hb hx hF rfl rfl rfl rfl ?_ | refine aT (v := .slice _ _ _) ho hb hx hF rfl rfl rfl rfl ?_ | refine aT (v := .bool _) ho hb hx hF rfl rfl rfl rfl ?_); clear ho hx hb hF; intro ww hF; simp only [nf] at hF)
    )
   refine (cn2.out _).mono ?_
   rintro _ w2 ⟨rfl, hbn⟩
   replace hF := hF.call hbn
   clear hbn
   go_wp2_with (first
    | go_skip
    | (refine aA rfl rfl hF ?_; clear hF; intro gg ww hF; simp only [nf] at hF)
    | (refine aB rfl rfl hF rfl ?_; clear hF; intro gg ww hF; simp only [nf] at hF)
    | (refine iL (t := 3) hF rfl rfl fun ho hx hb => ?_; refine aC (v := .int _ _) ho hb hx hF rfl rfl ?_; clear ho hx hb)
    | (refine iL hF rfl rfl fun ho hx hb => ?_; (first | refine aL ho hb hx hF rfl rfl ?_ | refine aC (v := .slice _ _ _) ho hb hx hF rfl rfl ?_ | refine aC (v := .string _) ho hb hx hF rfl rfl ?_ | refine aC (v := .bool _) ho hb hx hF rfl rfl ?_); clear ho hx hb)
    | (refine iS hF rfl rfl fun ho hx hb => ?_; (first | refine aS ho hb hx hF rfl rfl rfl rfl ?_ | refine aT (v := .int _ _) ho hb hx hF rfl rfl rfl rfl ?_ | refine aT (v := .slice _ _ _) ho hb hx hF rfl rfl rfl rfl ?_ | refine aT (v := .bool _) ho hb hx hF rfl rfl rfl rfl ?_); clear ho hx hb hF; intro ww hF; simp only [nf] at hF)
    )
   refine (cr5.out _ hF.data).mono ?_
   rintro _ w3 ⟨rfl, hbn⟩
   replace hF := hF.call hbn
   clear hbn
   go_wp2_with (first
    | go_skip
    | (refine aA rfl rfl hF ?_; clear hF; intro gg ww hF; simp only [nf] at hF)
    | (refine aB rfl rfl hF rfl ?_; clear hF; intro gg ww hF; simp only [nf] at hF)
    | (refine iL (t := 3) hF rfl rfl fun ho hx hb => ?_; refine aC (v := .int _ _) ho hb hx hF rfl rfl ?_; clear ho hx hb)
    | (refine iL hF rfl rfl fun ho hx hb => ?_; (first | refine aL ho hb hx hF rfl rfl ?_ | refine aC (v := .slice _ _ _) ho hb hx hF rfl rfl ?_ | refine aC (v := .string _) ho hb hx hF rfl rfl ?_ | refine aC (v := .bool _) ho hb hx hF rfl rfl ?_); clear ho hx hb)
    | (refine iS hF rfl rfl fun ho hx hb => ?_; (first | refine aS ho hb hx hF rfl rfl rfl rfl ?_ | refine aT (v := .int _ _) ho hb hx hF rfl rfl rfl rfl ?_ | refine aT (v := .slice _ _ _) ho hb hx hF rfl rfl rfl rfl ?_ | refine aT (v := .bool _) ho hb hx hF rfl rfl rfl rfl ?_); clear ho hx hb hF; intro ww hF; simp only [nf] at hF)
    )
   refine (cr6.out _ hF.data).mono ?_
   rintro _ w4 ⟨rfl, hbn⟩
   replace hF := hF.call hbn
   clear hbn
   go_wp2_with (first
    | go_skip
    | (refine aA rfl rfl hF ?_; clear hF; intro gg ww hF; simp only [nf] at hF)
    | (refine aB rfl rfl hF rfl ?_; clear hF; intro gg ww hF; simp only [nf] at hF)
    | (refine iL (t := 3) hF rfl rfl fun ho hx hb => ?_; refine aC (v := .int _ _) ho hb hx hF rfl rfl ?_; clear ho hx hb)
    | (refine iL hF rfl rfl fun ho hx hb => ?_; (first | refine aL ho hb hx hF rfl rfl ?_ | refine aC (v := .slice _ _ _) ho hb hx hF rfl rfl ?_ | refine aC (v := .string _) ho hb hx hF rfl rfl ?_ | refine aC (v := .bool _) ho hb hx hF rfl rfl ?_); clear ho hx hb)
    | (refine iS hF rfl rfl fun ho hx hb => ?_; (first | refine aS ho hb hx hF rfl rfl rfl rfl ?_ | refine aT (v := .int _ _) ho hb hx hF rfl rfl rfl rfl ?_ | refine aT (v := .slice _ _ _) ho hb hx hF rfl rfl rfl rfl ?_ | refine aT (v := .bool _) ho hb hx hF rfl rfl rfl rfl ?_); clear ho hx hb hF; intro ww hF; simp only [nf] at hF)
    )
   refine rgw [] [_, _] hF (.cons_cons _ (.cons_cons _ (.cons _ (.cons _ (.cons _ (.cons _ (.cons _ .slnil))))))) fun hF => ?_
   refine tkb 0 0 [] rfl rfl rfl rfl rfl ?_
   try simp only [nrm, Act.put]
   refine tkb 1 1 [] rfl rfl rfl rfl rfl ?_
   try simp only [nrm, Act.put]
   refine tkf 2 rfl ?_
   try simp only [nrm, Act.put]
   refine stw 3 3 hF rfl rfl rfl rfl rfl rfl rfl rfl ?_
   clear hF; intro ww hF; simp only [nf] at hF
   try simp only [nrm, Act.put]
   refine stw 4 4 hF rfl rfl rfl rfl rfl rfl rfl rfl ?_
   clear hF; intro ww hF; simp only [nf] at hF
   try simp only [nrm, Act.put]
   refine stw 5 5 hF rfl rfl rfl rfl rfl rfl rfl rfl ?_
   clear hF; intro ww hF; simp only [nf] at hF
   try simp only [nrm, Act.put]
   refine tkf 6 rfl ?_
   try simp only [nrm, Act.put]
   refine dnw ?_
   go_wp2_with (first
    | go_skip
    | (refine aA rfl rfl hF ?_; clear hF; intro gg ww hF; simp only [nf] at hF)
    | (refine aB rfl rfl hF rfl ?_; clear hF; intro gg ww hF; simp only [nf] at hF)
    | (refine iL (t := 3) hF rfl rfl fun ho hx hb => ?_; refine aC (v := .int _ _) ho hb hx hF rfl rfl ?_; clear ho hx hb)
    | (refine iL hF rfl rfl fun ho hx hb => ?_; (first | refine aL ho hb hx hF rfl rfl ?_ | refine aC (v := .slice _ _ _) ho hb hx hF rfl rfl ?_ | refine aC (v := .string _) ho hb hx hF rfl rfl ?_ | refine aC (v := .bool _) ho hb hx hF rfl rfl ?_); clear ho hx hb)
    | (refine iS hF rfl rfl fun ho hx hb => ?_; (first | refine aS ho hb hx hF rfl rfl rfl rfl ?_ | refine aT (v := .int _ _) ho hb hx hF rfl rfl rfl rfl ?_ | refine aT (v := .slice _ _ _) ho hb hx hF rfl rfl rfl rfl ?_ | refine aT (v := .bool _) ho hb hx hF rfl rfl rfl rfl ?_); clear ho hx hb hF; intro ww hF; simp only [nf] at hF)
    )
   refine bodyPost_ret (results4 Tryz.results57 (res_cell 3 hF rfl rfl rfl) (res_cell 4 hF rfl rfl rfl) (res_cell 5 hF rfl rfl rfl) (.tmp _)) rfl ⟨_, by rw [hv.out]; rfl, ?_⟩
   rw [hv.out]
   show StR b cl CA cc UA uc RA rc rs rs w _ _
   exact StR.same HR.out hF.below
 ·
  have hv : Hid (issuedP rs s r words = (putL (putL (changeL rs s.now { r with used := true }) s.now (tokA s r words)) s.now (tokR s r words), drawS (drawS s), ⟨s.n, s.n + 1, r⟩, 0)) := by show _ = _; rw [issuedP, if_neg hbad]
  have h1 : drawB s = true := by cases h : drawB s; exact absurd (.inl h) hbad; rfl
  have h2 : drawB (drawS s) = true := by cases h : drawB (drawS s); exact absurd (.inr (.inl h)) hbad; rfl
  have h3 : (roomI rs s.now 5 == 0) = false := by rw [beq_eq_false_iff_ne]; exact fun h => hbad (.inr (.inr (.inl h)))
  have h4 : (roomI rs s.now 6 == 0) = false := by rw [beq_eq_false_iff_ne]; exact fun h => hbad (.inr (.inr (.inr h)))
  obtain ⟨d1, k1, _⟩ := drew_on h1
  obtain ⟨d2, k2, _⟩ := drew_on h2
  have k3 : drawK (drawS s) = s.n + 1 := by rw [k2, d1]
  rw [h1, k1] at cn1
  rw [h2, k3] at cn2
  have cc' := Lib.hid (fun W h => rchange_walk rs RA rc s.now { r with used := true } W h)
  have hcl := changeL_len rs s.now { r with used := true }
  generalize hL1 : changeL rs s.now { r with used := true } = L1 at hv cc' hcl
  generalize (changeI rs s.now { r with used := true }).isSome = isc at cc'
  have hlA := putL_len L1 s.now (tokA s r words)
  have cpA := Lib.hid (fun W A c h => rput_walk L1 A c s.now (tokA s r words) W h (by omega))
  generalize hL2 : putL L1 s.now (tokA s r words) = L2 at hv cpA hlA
  generalize putC L1 s.now (tokA s r words) = eA at cpA
  have hlR := putL_len L2 s.now (tokR s r words)
  have cpR := Lib.hid (fun W A c h => rput_walk L2 A c s.now (tokR s r words) W h (by omega))
  generalize hL3 : putL L2 s.now (tokR s r words) = L3 at hv cpR hlR
  generalize putC L2 s.now (tokR s r words) = eR at cpR
  have cl5 := Lib.hid (fun W => rlife_walk 5 W)
  have cl6 := Lib.hid (fun W => rlife_walk 6 W)
  have cu5 := Lib.hid (fun W => runtil_walk s.now (lifeI 5) W HT.out.1 (by have := HT.out.2; omega) (by decide))
  have cu6 := Lib.hid (fun W => runtil_walk s.now (lifeI 6) W HT.out.1 (by have := HT.out.2; omega) (by decide))
  rw [show lifeI 5 = 300 from rfl] at cl5 cu5
  rw [show lifeI 6 = 600 from rfl] at cl6 cu6
  rw [show (tokA s r words).arr = #[.int .i64 5, .int .i64 s.n, .int .i64 (untilI s.now 300), .bool false, .int .i64 r.client, .int .i64 r.user, .int .i64 0, .int .i64 r.fam, .string ⟨#[]⟩, .string ⟨#[]⟩, .string words, .string ⟨#[]⟩, .string ⟨#[]⟩, .string ⟨#[]⟩, .string ⟨#[]⟩] from rfl] at cpA
  rw [show (tokR s r words).arr = #[.int .i64 6, .int .i64 (s.n + 1), .int .i64 (untilI s.now 600), .bool false, .int .i64 r.client, .int .i64 r.user, .int .i64 0, .int .i64 r.fam, .string ⟨#[]⟩, .string ⟨#[]⟩, .string words, .string ⟨#[]⟩, .string ⟨#[]⟩, .string ⟨#[]⟩, .string ⟨#[]⟩] from rfl] at cpR
  clear hbad h1 h2 k1 k2 k3 d1 d2 hL1 hL2 hL3
  go_enter Tryz.func57, Tryz.ntmps57
  go_wp2_with (first
   | go_skip
   | (refine aA rfl rfl hF ?_; clear hF; intro gg ww hF; simp only [nf] at hF)
   | (refine aB rfl rfl hF rfl ?_; clear hF; intro gg ww hF; simp only [nf] at hF)
   | (refine iL (t := 3) hF rfl rfl fun ho hx hb => ?_; refine aC (v := .int _ _) ho hb hx hF rfl rfl ?_; clear ho hx hb)
   | (refine iL hF rfl rfl fun ho hx hb => ?_; (first | refine aL ho hb hx hF rfl rfl ?_ | refine aC (v := .slice _ _ _) ho hb hx hF rfl rfl ?_ | refine aC (v := .string _) ho hb hx hF rfl rfl ?_ | refine aC (v := .bool _) ho hb hx hF rfl rfl ?_); clear ho hx hb)
   | (refine iS hF rfl rfl fun ho hx hb => ?_; (first | refine aS ho hb hx hF rfl rfl rfl rfl ?_ | refine aT (v := .int _ _) ho hb hx hF rfl rfl rfl rfl ?_ | refine aT (v := .slice _ _ _) ho hb hx hF rfl rfl rfl rfl ?_ | refine aT (v := .bool _) ho hb hx hF rfl rfl rfl rfl ?_); clear ho hx hb hF; intro ww hF; simp only [nf] at hF)
   )
  refine (cn1.out _).mono ?_
  rintro _ w1 ⟨rfl, hbn⟩
  replace hF := hF.call hbn
  clear hbn
  go_wp2_with (first
   | go_skip
   | (refine aA rfl rfl hF ?_; clear hF; intro gg ww hF; simp only [nf] at hF)
   | (refine aB rfl rfl hF rfl ?_; clear hF; intro gg ww hF; simp only [nf] at hF)
   | (refine iL (t := 3) hF rfl rfl fun ho hx hb => ?_; refine aC (v := .int _ _) ho hb hx hF rfl rfl ?_; clear ho hx hb)
   | (refine iL hF rfl rfl fun ho hx hb => ?_; (first | refine aL ho hb hx hF rfl rfl ?_ | refine aC (v := .slice _ _ _) ho hb hx hF rfl rfl ?_ | refine aC (v := .string _) ho hb hx hF rfl rfl ?_ | refine aC (v := .bool _) ho hb hx hF rfl rfl ?_); clear ho hx hb)
   | (refine iS hF rfl rfl fun ho hx hb => ?_; (first | refine aS ho hb hx hF rfl rfl rfl rfl ?_ | refine aT (v := .int _ _) ho hb hx hF rfl rfl rfl rfl ?_ | refine aT (v := .slice _ _ _) ho hb hx hF rfl rfl rfl rfl ?_ | refine aT (v := .bool _) ho hb hx hF rfl rfl rfl rfl ?_); clear ho hx hb hF; intro ww hF; simp only [nf] at hF)
   )
  refine (cn2.out _).mono ?_
  rintro _ w2 ⟨rfl, hbn⟩
  replace hF := hF.call hbn
  clear hbn
  go_wp2_with (first
   | go_skip
   | (refine aA rfl rfl hF ?_; clear hF; intro gg ww hF; simp only [nf] at hF)
   | (refine aB rfl rfl hF rfl ?_; clear hF; intro gg ww hF; simp only [nf] at hF)
   | (refine iL (t := 3) hF rfl rfl fun ho hx hb => ?_; refine aC (v := .int _ _) ho hb hx hF rfl rfl ?_; clear ho hx hb)
   | (refine iL hF rfl rfl fun ho hx hb => ?_; (first | refine aL ho hb hx hF rfl rfl ?_ | refine aC (v := .slice _ _ _) ho hb hx hF rfl rfl ?_ | refine aC (v := .string _) ho hb hx hF rfl rfl ?_ | refine aC (v := .bool _) ho hb hx hF rfl rfl ?_); clear ho hx hb)
   | (refine iS hF rfl rfl fun ho hx hb => ?_; (first | refine aS ho hb hx hF rfl rfl rfl rfl ?_ | refine aT (v := .int _ _) ho hb hx hF rfl rfl rfl rfl ?_ | refine aT (v := .slice _ _ _) ho hb hx hF rfl rfl rfl rfl ?_ | refine aT (v := .bool _) ho hb hx hF rfl rfl rfl rfl ?_); clear ho hx hb hF; intro ww hF; simp only [nf] at hF)
   )
  refine (cr5.out _ hF.data).mono ?_
  rintro _ w3 ⟨rfl, hbn⟩
  replace hF := hF.call hbn
  clear hbn
  go_wp2_with (first
   | go_skip
   | (refine aA rfl rfl hF ?_; clear hF; intro gg ww hF; simp only [nf] at hF)
   | (refine aB rfl rfl hF rfl ?_; clear hF; intro gg ww hF; simp only [nf] at hF)
   | (refine iL (t := 3) hF rfl rfl fun ho hx hb => ?_; refine aC (v := .int _ _) ho hb hx hF rfl rfl ?_; clear ho hx hb)
   | (refine iL hF rfl rfl fun ho hx hb => ?_; (first | refine aL ho hb hx hF rfl rfl ?_ | refine aC (v := .slice _ _ _) ho hb hx hF rfl rfl ?_ | refine aC (v := .string _) ho hb hx hF rfl rfl ?_ | refine aC (v := .bool _) ho hb hx hF rfl rfl ?_); clear ho hx hb)
   | (refine iS hF rfl rfl fun ho hx hb => ?_; (first | refine aS ho hb hx hF rfl rfl rfl rfl ?_ | refine aT (v := .int _ _) ho hb hx hF rfl rfl rfl rfl ?_ | refine aT (v := .slice _ _ _) ho hb hx hF rfl rfl rfl rfl ?_ | refine aT (v := .bool _) ho hb hx hF rfl rfl rfl rfl ?_); clear ho hx hb hF; intro ww hF; simp only [nf] at hF)
   )
  refine (cr6.out _ hF.data).mono ?_
  rintro _ w4 ⟨rfl, hbn⟩
  replace hF := hF.call hbn
  clear hbn
  go_wp2_with (first
   | go_skip
   | (refine aA rfl rfl hF ?_; clear hF; intro gg ww hF; simp only [nf] at hF)
   | (refine aB rfl rfl hF rfl ?_; clear hF; intro gg ww hF; simp only [nf] at hF)
   | (refine iL (t := 3) hF rfl rfl fun ho hx hb => ?_; refine aC (v := .int _ _) ho hb hx hF rfl rfl ?_; clear ho hx hb)
   | (refine iL hF rfl rfl fun ho hx hb => ?_; (first | refine aL ho hb hx hF rfl rfl ?_ | refine aC (v := .slice _ _ _) ho hb hx hF rfl rfl ?_ | refine aC (v := .string _) ho hb hx hF rfl rfl ?_ | refine aC (v := .bool _) ho hb hx hF rfl rfl ?_); clear ho hx hb)
   | (refine iS hF rfl rfl fun ho hx hb => ?_; (first | refine aS ho hb hx hF rfl rfl rfl rfl ?_ | refine aT (v := .int _ _) ho hb hx hF rfl rfl rfl rfl ?_ | refine aT (v := .slice _ _ _) ho hb hx hF rfl rfl rfl rfl ?_ | refine aT (v := .bool _) ho hb hx hF rfl rfl rfl rfl ?_); clear ho hx hb hF; intro ww hF; simp only [nf] at hF)
   )
  replace hF : Fr w _ [_, _, _, _, _, _, _, (_, _, ({ r with used := true } : Rc).arr)] _ := hF
  refine (cc'.out _ hF.data).mono ?_
  rintro _ w5 ⟨A2, c2, rfl, hr2, hbn, hn2⟩
  have g2 := hF.below.size
  replace hF := hF.rows hbn hr2 hn2 (fun _ h => h)
  clear hbn hr2
  go_wp2_with (first
   | go_skip
   | (refine aA rfl rfl hF ?_; clear hF; intro gg ww hF; simp only [nf] at hF)
   | (refine aB rfl rfl hF rfl ?_; clear hF; intro gg ww hF; simp only [nf] at hF)
   | (refine iL (t := 3) hF rfl rfl fun ho hx hb => ?_; refine aC (v := .int _ _) ho hb hx hF rfl rfl ?_; clear ho hx hb)
   | (refine iL hF rfl rfl fun ho hx hb => ?_; (first | refine aL ho hb hx hF rfl rfl ?_ | refine aC (v := .slice _ _ _) ho hb hx hF rfl rfl ?_ | refine aC (v := .string _) ho hb hx hF rfl rfl ?_ | refine aC (v := .bool _) ho hb hx hF rfl rfl ?_); clear ho hx hb)
   | (refine iS hF rfl rfl fun ho hx hb => ?_; (first | refine aS ho hb hx hF rfl rfl rfl rfl ?_ | refine aT (v := .int _ _) ho hb hx hF rfl rfl rfl rfl ?_ | refine aT (v := .slice _ _ _) ho hb hx hF rfl rfl rfl rfl ?_ | refine aT (v := .bool _) ho hb hx hF rfl rfl rfl rfl ?_); clear ho hx hb hF; intro ww hF; simp only [nf] at hF)
   )
  replace hF : Fr w _ [_, _, _, _, _, _, _, _, (_, _, #[.string ⟨#[]⟩, .string ⟨#[]⟩, .string words, .string ⟨#[]⟩, .string ⟨#[]⟩, .string ⟨#[]⟩, .string ⟨#[]⟩])] _ := hF
  have hd2 := fun W => fun h : RecsAt W RA rc rs ∧ RecsAt W A2 c2 L1 => h.2
  refine rgw [] _ hF (List.Sublist.refl _) fun hF => ?_
  refine tkf 0 rfl ?_
  try simp only [nrm, Act.put]
  refine tkf 1 rfl ?_
  try simp only [nrm, Act.put]
  refine tkc 2 1 [] (v := .int _ _) rfl rfl rfl rfl rfl ?_
  try simp only [nrm, Act.put]
  refine tkf 3 rfl ?_
  try simp only [nrm, Act.put]
  refine tkf 4 rfl ?_
  try simp only [nrm, Act.put]
  refine tkc 5 1 [] (v := .int _ _) rfl rfl rfl rfl rfl ?_
  try simp only [nrm, Act.put]
  refine tkf 8 rfl ?_
  try simp only [nrm, Act.put]
  refine tkc 9 2 [] (v := .int _ _) rfl rfl rfl rfl rfl ?_
  try simp only [nrm, Act.put]
  refine tkf 10 rfl ?_
  try simp only [nrm, Act.put]
  refine tkc 11 2 [] (v := .int _ _) rfl rfl rfl rfl rfl ?_
  try simp only [nrm, Act.put]
  refine tkf 12 rfl ?_
  try simp only [nrm, Act.put]
  refine tkc 13 2 [] (v := .int _ _) rfl rfl rfl rfl rfl ?_
  try simp only [nrm, Act.put]
  refine tkb 14 8 [] rfl rfl rfl rfl rfl ?_
  try simp only [nrm, Act.put]
  refine rdw 6 rfl fun K hK => ?_
  go_simp
  go_at_call 87
  with_reducible refine (cl5.out _).mono ?_
  rintro _ ww ⟨rfl, hbn⟩
  replace hF := hF.call hbn
  refine hK.out _ _ (by (first | exact HoldA.past rfl | exact HoldA.of (by assumption) _ | exact HoldA.of (Fr.sub hF (by repeat (first | exact List.Sublist.slnil | apply List.Sublist.cons_cons | apply List.Sublist.cons))) _)) (fun _ => ?_)
  clear hK K; try clear hbn
  try simp only [nrm, Act.put]
  refine rdw 7 rfl fun K hK => ?_
  go_simp
  go_at_call 52
  with_reducible refine (cu5.out _).mono ?_
  rintro _ ww ⟨rfl, rfl⟩
  skip
  refine hK.out _ _ (by (first | exact HoldA.past rfl | exact HoldA.of (by assumption) _ | exact HoldA.of (Fr.sub hF (by repeat (first | exact List.Sublist.slnil | apply List.Sublist.cons_cons | apply List.Sublist.cons))) _)) (fun _ => ?_)
  clear hK K; try clear hbn
  try simp only [nrm, Act.put]
  refine tkf 15 rfl ?_
  try simp only [nrm, Act.put]
  refine rdw 16 rfl fun K hK => ?_
  go_simp
  go_at_call 86
  with_reducible refine (cpA.out _ _ _ (hF.data.2)).mono ?_
  rintro _ ww ⟨A3, c3, rfl, hr3, hbn, hn3⟩
  have g3 := hF.below.size
  have hF0 := hF.call hbn
  replace hF := hF.rows hbn hr3 hn3 (fun _ h => h.2)
  refine hK.out _ _ (by (first | exact HoldA.past rfl | exact HoldA.of (by assumption) _ | exact HoldA.of (Fr.sub hF (by repeat (first | exact List.Sublist.slnil | apply List.Sublist.cons_cons | apply List.Sublist.cons))) _)) (fun _ => ?_)
  clear hK K; try clear hbn
  try simp only [nrm, Act.put]
  refine tkf 17 rfl ?_
  try simp only [nrm, Act.put]
  refine tkf 18 rfl ?_
  try simp only [nrm, Act.put]
  refine tkf 19 rfl ?_
  try simp only [nrm, Act.put]
  refine tkf 20 rfl ?_
  try simp only [nrm, Act.put]
  refine dnw ?_
  go_wp2_with (first
   | go_skip
   | (refine aA rfl rfl hF ?_; clear hF; intro gg ww hF; simp only [nf] at hF)
   | (refine aB rfl rfl hF rfl ?_; clear hF; intro gg ww hF; simp only [nf] at hF)
   | (refine iL (t := 3) hF rfl rfl fun ho hx hb => ?_; refine aC (v := .int _ _) ho hb hx hF rfl rfl ?_; clear ho hx hb)
   | (refine iL hF rfl rfl fun ho hx hb => ?_; (first | refine aL ho hb hx hF rfl rfl ?_ | refine aC (v := .slice _ _ _) ho hb hx hF rfl rfl ?_ | refine aC (v := .string _) ho hb hx hF rfl rfl ?_ | refine aC (v := .bool _) ho hb hx hF rfl rfl ?_); clear ho hx hb)
   | (refine iS hF rfl rfl fun ho hx hb => ?_; (first | refine aS ho hb hx hF rfl rfl rfl rfl ?_ | refine aT (v := .int _ _) ho hb hx hF rfl rfl rfl rfl ?_ | refine aT (v := .slice _ _ _) ho hb hx hF rfl rfl rfl rfl ?_ | refine aT (v := .bool _) ho hb hx hF rfl rfl rfl rfl ?_); clear ho hx hb hF; intro ww hF; simp only [nf] at hF)
   )
  refine rgw [] _ hF (List.Sublist.refl _) fun hF => ?_
  refine tkf 0 rfl ?_
  try simp only [nrm, Act.put]
  refine tkf 1 rfl ?_
  try simp only [nrm, Act.put]
  refine tkc 2 1 [] (v := .int _ _) rfl rfl rfl rfl rfl ?_
  try simp only [nrm, Act.put]
  refine tkf 3 rfl ?_
  try simp only [nrm, Act.put]
  refine tkf 4 rfl ?_
  try simp only [nrm, Act.put]
  refine tkc 5 1 [] (v := .int _ _) rfl rfl rfl rfl rfl ?_
  try simp only [nrm, Act.put]
  refine tkf 8 rfl ?_
  try simp only [nrm, Act.put]
  refine tkc 9 2 [] (v := .int _ _) rfl rfl rfl rfl rfl ?_
  try simp only [nrm, Act.put]
  refine tkf 10 rfl ?_
  try simp only [nrm, Act.put]
  refine tkc 11 2 [] (v := .int _ _) rfl rfl rfl rfl rfl ?_
  try simp only [nrm, Act.put]
  refine tkf 12 rfl ?_
  try simp only [nrm, Act.put]
  refine tkc 13 2 [] (v := .int _ _) rfl rfl rfl rfl rfl ?_
  try simp only [nrm, Act.put]
  refine tkb 14 8 [] rfl rfl rfl rfl rfl ?_
  try simp only [nrm, Act.put]
  refine rdw 6 rfl fun K hK => ?_
  go_simp
  go_at_call 87
  with_reducible refine (cl6.out _).mono ?_
  rintro _ ww ⟨rfl, hbn⟩
  replace hF := hF.call hbn
  refine hK.out _ _ (by (first | exact HoldA.past rfl | exact HoldA.of (by assumption) _ | exact HoldA.of (Fr.sub hF (by repeat (first | exact List.Sublist.slnil | apply List.Sublist.cons_cons | apply List.Sublist.cons))) _)) (fun _ => ?_)
  clear hK K; try clear hbn
  try simp only [nrm, Act.put]
  refine rdw 7 rfl fun K hK => ?_
  go_simp
  go_at_call 52
  with_reducible refine (cu6.out _).mono ?_
  rintro _ ww ⟨rfl, rfl⟩
  skip
  refine hK.out _ _ (by (first | exact HoldA.past rfl | exact HoldA.of (by assumption) _ | exact HoldA.of (Fr.sub hF (by repeat (first | exact List.Sublist.slnil | apply List.Sublist.cons_cons | apply List.Sublist.cons))) _)) (fun _ => ?_)
  clear hK K; try clear hbn
  try simp only [nrm, Act.put]
  refine tkf 15 rfl ?_
  try simp only [nrm, Act.put]
  refine rdw 16 rfl fun K hK => ?_
  go_simp
  go_at_call 86
  with_reducible refine (cpR.out _ _ _ (hF.data.2)).mono ?_
  rintro _ ww ⟨A4, c4, rfl, hr4, hbn, hn4⟩
  have g4 := hF.below.size
  have hF0 := hF.call hbn
  replace hF := hF.rows hbn hr4 hn4 (fun _ h => h.2)
  refine hK.out _ _ (by (first | exact HoldA.past rfl | exact HoldA.of (by assumption) _ | exact HoldA.of (Fr.sub hF (by repeat (first | exact List.Sublist.slnil | apply List.Sublist.cons_cons | apply List.Sublist.cons))) _)) (fun _ => ?_)
  clear hK K; try clear hbn
  try simp only [nrm, Act.put]
  refine tkf 17 rfl ?_
  try simp only [nrm, Act.put]
  refine tkf 18 rfl ?_
  try simp only [nrm, Act.put]
  refine tkf 19 rfl ?_
  try simp only [nrm, Act.put]
  refine tkf 20 rfl ?_
  try simp only [nrm, Act.put]
  refine dnw ?_
  go_wp2_with (first
   | go_skip
   | (refine aA rfl rfl hF ?_; clear hF; intro gg ww hF; simp only [nf] at hF)
   | (refine aB rfl rfl hF rfl ?_; clear hF; intro gg ww hF; simp only [nf] at hF)
   | (refine iL (t := 3) hF rfl rfl fun ho hx hb => ?_; refine aC (v := .int _ _) ho hb hx hF rfl rfl ?_; clear ho hx hb)
   | (refine iL hF rfl rfl fun ho hx hb => ?_; (first | refine aL ho hb hx hF rfl rfl ?_ | refine aC (v := .slice _ _ _) ho hb hx hF rfl rfl ?_ | refine aC (v := .string _) ho hb hx hF rfl rfl ?_ | refine aC (v := .bool _) ho hb hx hF rfl rfl ?_); clear ho hx hb)
   | (refine iS hF rfl rfl fun ho hx hb => ?_; (first | refine aS ho hb hx hF rfl rfl rfl rfl ?_ | refine aT (v := .int _ _) ho hb hx hF rfl rfl rfl rfl ?_ | refine aT (v := .slice _ _ _) ho hb hx hF rfl rfl rfl rfl ?_ | refine aT (v := .bool _) ho hb hx hF rfl rfl rfl rfl ?_); clear ho hx hb hF; intro ww hF; simp only [nf] at hF)
   )
  refine rgw [] [_, _, _] hF (.cons_cons _ (.cons _ (.cons_cons _ (.cons _ (.cons _ (.cons _ (.cons_cons _ (.cons _ (.cons _ .slnil))))))))) fun hF => ?_
  refine tkb 0 0 [] rfl rfl rfl rfl rfl ?_
  try simp only [nrm, Act.put]
  refine tkb 1 2 [] rfl rfl rfl rfl rfl ?_
  try simp only [nrm, Act.put]
  refine tkf 2 rfl ?_
  try simp only [nrm, Act.put]
  refine tkf 3 rfl ?_
  try simp only [nrm, Act.put]
  refine tkb 4 1 [] rfl rfl rfl rfl rfl ?_
  try simp only [nrm, Act.put]
  refine tkf 5 rfl ?_ (v := .agg (⟨s.n, s.n + 1, r⟩ : Gr).arr) (hv := fun w => by kernel_rfl)
  try simp only [nrm, Act.put]
  refine stw 6 3 hF rfl rfl rfl rfl rfl rfl rfl rfl ?_
  clear hF; intro ww hF; simp only [nf] at hF
  try simp only [nrm, Act.put]
  refine stw 7 4 hF rfl rfl rfl rfl rfl rfl rfl rfl ?_
  clear hF; intro ww hF; simp only [nf] at hF
  try simp only [nrm, Act.put]
  refine stw 8 5 hF rfl rfl rfl rfl rfl rfl rfl rfl ?_
  clear hF; intro ww hF; simp only [nf] at hF
  try simp only [nrm, Act.put]
  refine tkf 9 rfl ?_
  try simp only [nrm, Act.put]
  refine dnw ?_
  go_wp2_with (first
   | go_skip
   | (refine aA rfl rfl hF ?_; clear hF; intro gg ww hF; simp only [nf] at hF)
   | (refine aB rfl rfl hF rfl ?_; clear hF; intro gg ww hF; simp only [nf] at hF)
   | (refine iL (t := 3) hF rfl rfl fun ho hx hb => ?_; refine aC (v := .int _ _) ho hb hx hF rfl rfl ?_; clear ho hx hb)
   | (refine iL hF rfl rfl fun ho hx hb => ?_; (first | refine aL ho hb hx hF rfl rfl ?_ | refine aC (v := .slice _ _ _) ho hb hx hF rfl rfl ?_ | refine aC (v := .string _) ho hb hx hF rfl rfl ?_ | refine aC (v := .bool _) ho hb hx hF rfl rfl ?_); clear ho hx hb)
   | (refine iS hF rfl rfl fun ho hx hb => ?_; (first | refine aS ho hb hx hF rfl rfl rfl rfl ?_ | refine aT (v := .int _ _) ho hb hx hF rfl rfl rfl rfl ?_ | refine aT (v := .slice _ _ _) ho hb hx hF rfl rfl rfl rfl ?_ | refine aT (v := .bool _) ho hb hx hF rfl rfl rfl rfl ?_); clear ho hx hb hF; intro ww hF; simp only [nf] at hF)
   )
  refine bodyPost_ret (results4 Tryz.results57 (res_cell 3 hF rfl rfl rfl) (res_cell 4 hF rfl rfl rfl) (res_cell 5 hF rfl rfl rfl) (.tmp _)) rfl ⟨_, by rw [hv.out]; rfl, ?_⟩
  rw [hv.out]
  exact ⟨A4, c4, rfl, hF.data.2, NewRow.trans (NewRow.trans (NewRow.up g2 hn2) g3 hn3) g4 hn4, hF.below⟩
end Go.Proofs.YtnhjgocdepbajaaGreat
