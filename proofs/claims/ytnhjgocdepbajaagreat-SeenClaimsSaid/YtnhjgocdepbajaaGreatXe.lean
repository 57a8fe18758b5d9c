/- What a token is good for, by the program: seen.list.token, fresh, Active. No condition of its own. Printed by wip/tools/genXe.py. -/
import Derived.Test.YtnhjgocdepbajaaGreatXx
set_option linter.unusedVariables false
set_option linter.unusedSimpArgs false
set_option maxRecDepth 20000
set_option maxHeartbeats 4000000
namespace Go.Proofs.YtnhjgocdepbajaaGreat
open Go.RowKit S19 C17 R
section
variable {w0 w : World} {bs : List Bx} {D : World → Prop} {ops : Array Oper} {rest : List Oper} {op : Oper} {a : Act} {Q : Exit → Act → World → Prop}
theorem aD (cs : Array Value) (e : TypeId) (n : Nat) {t : TypeId} {parts : Array (Nat × Operand)} (ho : op.op = .buildSlice t n parts)
  (hv : ∀ w, (execOp a.eval op).run Tryz.prog w = .ok (.value (.slice (some ⟨w.heap.size, 0, none⟩) n n)) (w.alloc (.cells cs e))) (hw : Region.wanted op (yielded ops a.tmps) = true) (hF : Fr w0 w bs D)
  (h : ∀ g w', Fr w0 w' (bs ++ [(g, e, cs)]) D → wpList Tryz.prog ops Q rest (a.put op.dst (.slice (some ⟨g, 0, none⟩) n n)) w') : wpList Tryz.prog ops Q (op :: rest) a w :=
 wpL hw fun K hK => by
  unfold Oper.wp
  rw [hv w]
  exact hK _ _ (h w.heap.size _ (hF.alloc e cs))
theorem aV (t : TypeId) (v : Value) {parts : Array (Nat × Operand)} (ho : op.op = .build t parts) (hv : ∀ w, (execOp a.eval op).run Tryz.prog w = .ok (.value v) w) (hw : Region.wanted op (yielded ops a.tmps) = true)
  (h : wpList Tryz.prog ops Q rest (a.put op.dst v) w) : wpList Tryz.prog ops Q (op :: rest) a w :=
 wpL hw fun K hK => wp_val (hv w) (hK _ _ h)
end
def lsA (nm : List UInt8) (key : Int) (CA : Option Addr) (cn cc : Nat) (UA : Option Addr) (un uc : Nat) (RA : Option Addr) (rn rc : Nat) (now : Int) : Array Value :=
 #[.string ⟨nm.toArray⟩, .int .i64 key, .slice CA cn cc, .slice UA un uc, .slice RA rn rc, .int .i64 now]
instance : StructIs 83 := ⟨6, ⟨_, Tryz.underlying83, rfl⟩, by kernel_rfl⟩
instance {nm : List UInt8} {key : Int} {CA : Option Addr} {cn cc : Nat} {UA : Option Addr} {un uc : Nat} {RA : Option Addr} {rn rc : Nat} {now : Int} : Ones (lsA nm key CA cn cc UA un uc RA rn rc now) := inferInstanceAs (Ones #[.string ⟨nm.toArray⟩, .int .i64 key, .slice CA cn cc, .slice UA un uc, .slice RA rn rc, .int .i64 now])
section
variable (b : Bs) (rs : List Rc) (now key : Int) (cl : List Cl) (CA : Option Addr) (cc : Nat) (UA : Option Addr) (uc : Nat) (RA : Option Addr) (rc : Nat) (w : World) (hr : RecsAt w RA rc rs)
include hr
theorem token_walk :
  Calls Tryz.prog 35 #[.agg (lsA b.nm b.key CA cl.length cc UA b.us.length uc RA rs.length rc now), .int .i64 key] w (RecO (tokenO rs now key) w) := by
 have hF := Fr.start w (kp_start hr)
 have c5 := Lib.hid (fun W h => S19.find_walk rs RA rc now 5 key W h)
 have c6 := Lib.hid (fun W h => S19.find_walk rs RA rc now 6 key W h)
 have HV : Hid (tokenO rs now key = match findO rs now 5 key with
  | some r => some r
  | none => findO rs now 6 key) := rfl
 generalize findO rs now 5 key = o5 at c5 HV
 generalize findO rs now 6 key = o6 at c6 HV
 clear hr
 go_enter Tryz.func35, Tryz.ntmps35
 go_wp2_with (first
  | go_skip
  | (refine aA rfl rfl hF ?_; clear hF; intro gg ww hF; simp only [nf] at hF)
  | (refine aB rfl rfl hF rfl ?_; clear hF; intro gg ww hF; simp only [nf] at hF)
  | (refine iL (t := 3) hF rfl rfl fun ho hx hb => ?_; refine aC (v := .int _ _) ho hb hx hF rfl rfl ?_; clear ho hx hb)
  | (refine iL hF rfl rfl fun ho hx hb => ?_; (first | refine aL ho hb hx hF rfl rfl ?_ | refine aC (v := .slice _ _ _) ho hb hx hF rfl rfl ?_ | refine aC (v := .string _) ho hb hx hF rfl rfl ?_ | refine aC (v := .bool _) ho hb hx hF rfl rfl ?_); clear ho hx hb)
  | (refine iS hF rfl rfl fun ho hx hb => ?_; (first | refine aS ho hb hx hF rfl rfl rfl rfl ?_ | refine aT (v := .int _ _) ho hb hx hF rfl rfl rfl rfl ?_ | refine aT (v := .slice _ _ _) ho hb hx hF rfl rfl rfl rfl ?_ | refine aT (v := .bool _) ho hb hx hF rfl rfl rfl rfl ?_); clear ho hx hb hF; intro ww hF; simp only [nf] at hF)
  | (refine aD #[.int .i64 5, .int .i64 6] 3 2 rfl (fun _ => by kernel_rfl) rfl hF ?_; clear hF; intro gg ww hF; simp only [nf] at hF)
  )
 obtain ⟨bs0, hbs0, hF0⟩ := hF.named
 have HB0 := Lib.hid hbs0
 clear hbs0 hF
 go_loopw [12] (fun iv wr => ∃ k : Nat, k ≤ 2 ∧ iv = .int .i64 k ∧ Hid (1 ≤ k → o5 = none) ∧ Hid (2 ≤ k → o6 = none) ∧ Fr w wr bs0 (fun W => RecsAt W RA rc rs)) (fun iv _ => 2 - (intOf iv).toNat)
 case atStart => exact ⟨0, by omega, rfl, fun h => by omega, fun h => by omega, hF0⟩
 case round =>
  clear hF0
  obtain ⟨k, hk, rfl, h5, h6, hF⟩ := hrel
  have hbs0 := HB0.out
  subst hbs0
  rcases (by omega : k = 0 ∨ k = 1 ∨ k = 2) with rfl | rfl | rfl
  ·
   go_wp2_with (first
    | go_skip
    | (refine aA rfl rfl hF ?_; clear hF; intro gg ww hF; simp only [nf] at hF)
    | (refine aB rfl rfl hF rfl ?_; clear hF; intro gg ww hF; simp only [nf] at hF)
    | (refine iL (t := 3) hF rfl rfl fun ho hx hb => ?_; refine aC (v := .int _ _) ho hb hx hF rfl rfl ?_; clear ho hx hb)
    | (refine iL hF rfl rfl fun ho hx hb => ?_; (first | refine aL ho hb hx hF rfl rfl ?_ | refine aC (v := .slice _ _ _) ho hb hx hF rfl rfl ?_ | refine aC (v := .string _) ho hb hx hF rfl rfl ?_ | refine aC (v := .bool _) ho hb hx hF rfl rfl ?_); clear ho hx hb)
    | (refine iS hF rfl rfl fun ho hx hb => ?_; (first | refine aS ho hb hx hF rfl rfl rfl rfl ?_ | refine aT (v := .int _ _) ho hb hx hF rfl rfl rfl rfl ?_ | refine aT (v := .slice _ _ _) ho hb hx hF rfl rfl rfl rfl ?_ | refine aT (v := .bool _) ho hb hx hF rfl rfl rfl rfl ?_); clear ho hx hb hF; intro ww hF; simp only [nf] at hF)
    )
   refine (c5.out _ hF.data).mono ?_
   rintro _ w1 ⟨rfl, hbn⟩
   replace hF := hF.call hbn
   clear hbn
   cases o5 with
   | some r =>
    have hv : Hid (tokenO rs now key = some r) := HV.out
    go_wp2_with (first
     | go_skip
     | (refine aA rfl rfl hF ?_; clear hF; intro gg ww hF; simp only [nf] at hF)
     | (refine aB rfl rfl hF rfl ?_; clear hF; intro gg ww hF; simp only [nf] at hF)
     | (refine iL (t := 3) hF rfl rfl fun ho hx hb => ?_; refine aC (v := .int _ _) ho hb hx hF rfl rfl ?_; clear ho hx hb)
     | (refine iL hF rfl rfl fun ho hx hb => ?_; (first | refine aL ho hb hx hF rfl rfl ?_ | refine aC (v := .slice _ _ _) ho hb hx hF rfl rfl ?_ | refine aC (v := .string _) ho hb hx hF rfl rfl ?_ | refine aC (v := .bool _) ho hb hx hF rfl rfl ?_); clear ho hx hb)
     | (refine iS hF rfl rfl fun ho hx hb => ?_; (first | refine aS ho hb hx hF rfl rfl rfl rfl ?_ | refine aT (v := .int _ _) ho hb hx hF rfl rfl rfl rfl ?_ | refine aT (v := .slice _ _ _) ho hb hx hF rfl rfl rfl rfl ?_ | refine aT (v := .bool _) ho hb hx hF rfl rfl rfl rfl ?_); clear ho hx hb hF; intro ww hF; simp only [nf] at hF)
     )
    refine bodyPost_ret (results2 Tryz.results35 (res_cell 1 hF rfl rfl rfl) (.tmp _)) rfl ⟨by rw [hv.out]; rfl, hF.below⟩
   | none =>
    go_wp2_with (first
     | go_skip
     | (refine aA rfl rfl hF ?_; clear hF; intro gg ww hF; simp only [nf] at hF)
     | (refine aB rfl rfl hF rfl ?_; clear hF; intro gg ww hF; simp only [nf] at hF)
     | (refine iL (t := 3) hF rfl rfl fun ho hx hb => ?_; refine aC (v := .int _ _) ho hb hx hF rfl rfl ?_; clear ho hx hb)
     | (refine iL hF rfl rfl fun ho hx hb => ?_; (first | refine aL ho hb hx hF rfl rfl ?_ | refine aC (v := .slice _ _ _) ho hb hx hF rfl rfl ?_ | refine aC (v := .string _) ho hb hx hF rfl rfl ?_ | refine aC (v := .bool _) ho hb hx hF rfl rfl ?_); clear ho hx hb)
     | (refine iS hF rfl rfl fun ho hx hb => ?_; (first | refine aS ho hb hx hF rfl rfl rfl rfl ?_ | refine aT (v := .int _ _) ho hb hx hF rfl rfl rfl rfl ?_ | refine aT (v := .slice _ _ _) ho hb hx hF rfl rfl rfl rfl ?_ | refine aT (v := .bool _) ho hb hx hF rfl rfl rfl rfl ?_); clear ho hx hb hF; intro ww hF; simp only [nf] at hF)
     )
    exact ⟨⟨1, by omega, by go_num, by first | exact fun _ => trivial | exact Lib.hid trivial | exact fun _ => rfl, by first | exact Lib.hid trivial | exact fun h => by omega, hF.sub (by repeat (first | exact List.Sublist.slnil | apply List.Sublist.cons_cons | apply List.Sublist.cons))⟩, by simp [intOf]⟩
  ·
   obtain rfl := h5.out (by omega)
   go_wp2_with (first
    | go_skip
    | (refine aA rfl rfl hF ?_; clear hF; intro gg ww hF; simp only [nf] at hF)
    | (refine aB rfl rfl hF rfl ?_; clear hF; intro gg ww hF; simp only [nf] at hF)
    | (refine iL (t := 3) hF rfl rfl fun ho hx hb => ?_; refine aC (v := .int _ _) ho hb hx hF rfl rfl ?_; clear ho hx hb)
    | (refine iL hF rfl rfl fun ho hx hb => ?_; (first | refine aL ho hb hx hF rfl rfl ?_ | refine aC (v := .slice _ _ _) ho hb hx hF rfl rfl ?_ | refine aC (v := .string _) ho hb hx hF rfl rfl ?_ | refine aC (v := .bool _) ho hb hx hF rfl rfl ?_); clear ho hx hb)
    | (refine iS hF rfl rfl fun ho hx hb => ?_; (first | refine aS ho hb hx hF rfl rfl rfl rfl ?_ | refine aT (v := .int _ _) ho hb hx hF rfl rfl rfl rfl ?_ | refine aT (v := .slice _ _ _) ho hb hx hF rfl rfl rfl rfl ?_ | refine aT (v := .bool _) ho hb hx hF rfl rfl rfl rfl ?_); clear ho hx hb hF; intro ww hF; simp only [nf] at hF)
    )
   refine (c6.out _ hF.data).mono ?_
   rintro _ w1 ⟨rfl, hbn⟩
   replace hF := hF.call hbn
   clear hbn
   cases o6 with
   | some r =>
    have hv : Hid (tokenO rs now key = some r) := HV.out
    go_wp2_with (first
     | go_skip
     | (refine aA rfl rfl hF ?_; clear hF; intro gg ww hF; simp only [nf] at hF)
     | (refine aB rfl rfl hF rfl ?_; clear hF; intro gg ww hF; simp only [nf] at hF)
     | (refine iL (t := 3) hF rfl rfl fun ho hx hb => ?_; refine aC (v := .int _ _) ho hb hx hF rfl rfl ?_; clear ho hx hb)
     | (refine iL hF rfl rfl fun ho hx hb => ?_; (first | refine aL ho hb hx hF rfl rfl ?_ | refine aC (v := .slice _ _ _) ho hb hx hF rfl rfl ?_ | refine aC (v := .string _) ho hb hx hF rfl rfl ?_ | refine aC (v := .bool _) ho hb hx hF rfl rfl ?_); clear ho hx hb)
     | (refine iS hF rfl rfl fun ho hx hb => ?_; (first | refine aS ho hb hx hF rfl rfl rfl rfl ?_ | refine aT (v := .int _ _) ho hb hx hF rfl rfl rfl rfl ?_ | refine aT (v := .slice _ _ _) ho hb hx hF rfl rfl rfl rfl ?_ | refine aT (v := .bool _) ho hb hx hF rfl rfl rfl rfl ?_); clear ho hx hb hF; intro ww hF; simp only [nf] at hF)
     )
    refine bodyPost_ret (results2 Tryz.results35 (res_cell 1 hF rfl rfl rfl) (.tmp _)) rfl ⟨by rw [hv.out]; rfl, hF.below⟩
   | none =>
    go_wp2_with (first
     | go_skip
     | (refine aA rfl rfl hF ?_; clear hF; intro gg ww hF; simp only [nf] at hF)
     | (refine aB rfl rfl hF rfl ?_; clear hF; intro gg ww hF; simp only [nf] at hF)
     | (refine iL (t := 3) hF rfl rfl fun ho hx hb => ?_; refine aC (v := .int _ _) ho hb hx hF rfl rfl ?_; clear ho hx hb)
     | (refine iL hF rfl rfl fun ho hx hb => ?_; (first | refine aL ho hb hx hF rfl rfl ?_ | refine aC (v := .slice _ _ _) ho hb hx hF rfl rfl ?_ | refine aC (v := .string _) ho hb hx hF rfl rfl ?_ | refine aC (v := .bool _) ho hb hx hF rfl rfl ?_); clear ho hx hb)
     | (refine iS hF rfl rfl fun ho hx hb => ?_; (first | refine aS ho hb hx hF rfl rfl rfl rfl ?_ | refine aT (v := .int _ _) ho hb hx hF rfl rfl rfl rfl ?_ | refine aT (v := .slice _ _ _) ho hb hx hF rfl rfl rfl rfl ?_ | refine aT (v := .bool _) ho hb hx hF rfl rfl rfl rfl ?_); clear ho hx hb hF; intro ww hF; simp only [nf] at hF)
     )
    exact ⟨⟨2, by omega, by go_num, by first | exact fun _ => trivial | exact Lib.hid trivial | exact fun _ => rfl, by first | exact fun _ => trivial | exact Lib.hid trivial | exact fun _ => rfl, hF.sub (by repeat (first | exact List.Sublist.slnil | apply List.Sublist.cons_cons | apply List.Sublist.cons))⟩, by simp [intOf]⟩
  ·
   obtain rfl := h5.out (by omega)
   obtain rfl := h6.out (by omega)
   have hv : Hid (tokenO rs now key = none) := HV.out
   go_upto_region 8 with (fail)
   go_wp2_with (first
    | go_skip
    | (refine aA rfl rfl hF ?_; clear hF; intro gg ww hF; simp only [nf] at hF)
    | (refine aB rfl rfl hF rfl ?_; clear hF; intro gg ww hF; simp only [nf] at hF)
    | (refine iL (t := 3) hF rfl rfl fun ho hx hb => ?_; refine aC (v := .int _ _) ho hb hx hF rfl rfl ?_; clear ho hx hb)
    | (refine iL hF rfl rfl fun ho hx hb => ?_; (first | refine aL ho hb hx hF rfl rfl ?_ | refine aC (v := .slice _ _ _) ho hb hx hF rfl rfl ?_ | refine aC (v := .string _) ho hb hx hF rfl rfl ?_ | refine aC (v := .bool _) ho hb hx hF rfl rfl ?_); clear ho hx hb)
    | (refine iS hF rfl rfl fun ho hx hb => ?_; (first | refine aS ho hb hx hF rfl rfl rfl rfl ?_ | refine aT (v := .int _ _) ho hb hx hF rfl rfl rfl rfl ?_ | refine aT (v := .slice _ _ _) ho hb hx hF rfl rfl rfl rfl ?_ | refine aT (v := .bool _) ho hb hx hF rfl rfl rfl rfl ?_); clear ho hx hb hF; intro ww hF; simp only [nf] at hF)
    )
   refine bodyPost_ret (results2 Tryz.results35 (res_cell 1 hF rfl rfl rfl) (.tmp _)) rfl ⟨by rw [hv.out]; rfl, hF.below⟩
theorem fresh_walk :
  Calls Tryz.prog 34 #[.func (.func 35) #[.agg (lsA b.nm b.key CA cl.length cc UA b.us.length uc RA rs.length rc now)] #[], .int .i64 key] w (RecO (activeO rs now key) w) := by
 have hF := Fr.start w (kp_start hr)
 have ct := Lib.hid (fun W h => token_walk b rs now key cl CA cc UA uc RA rc W h)
 have hcf : ∀ (args : Array Value) (w : World), (callFunc 35 args).run Tryz.prog w = .ok (.enter 35 args) w := fun args w => by kernel_rfl
 have HV : Hid (activeO rs now key = match tokenO rs now key with
  | none => none
  | some r => if r.used then none else some r) := rfl
 generalize tokenO rs now key = o at ct HV
 clear hr
 cases o with
 | none =>
  have hv : Hid (activeO rs now key = none) := HV.out
  go_enter Tryz.func34, Tryz.ntmps34
  go_wp2_with (first
   | go_skip
   | (refine aA rfl rfl hF ?_; clear hF; intro gg ww hF; simp only [nf] at hF)
   | (refine aB rfl rfl hF rfl ?_; clear hF; intro gg ww hF; simp only [nf] at hF)
   | (refine iL (t := 3) hF rfl rfl fun ho hx hb => ?_; refine aC (v := .int _ _) ho hb hx hF rfl rfl ?_; clear ho hx hb)
   | (refine iL hF rfl rfl fun ho hx hb => ?_; (first | refine aL ho hb hx hF rfl rfl ?_ | refine aC (v := .slice _ _ _) ho hb hx hF rfl rfl ?_ | refine aC (v := .string _) ho hb hx hF rfl rfl ?_ | refine aC (v := .bool _) ho hb hx hF rfl rfl ?_); clear ho hx hb)
   | (refine iS hF rfl rfl fun ho hx hb => ?_; (first | refine aS ho hb hx hF rfl rfl rfl rfl ?_ | refine aT (v := .int _ _) ho hb hx hF rfl rfl rfl rfl ?_ | refine aT (v := .slice _ _ _) ho hb hx hF rfl rfl rfl rfl ?_ | refine aT (v := .bool _) ho hb hx hF rfl rfl rfl rfl ?_); clear ho hx hb hF; intro ww hF; simp only [nf] at hF)
   )
  refine (ct.out _ hF.data).mono ?_
  rintro _ w1 ⟨rfl, hbn⟩
  replace hF := hF.call hbn
  clear hbn
  go_wp2_with (first
   | go_skip
   | (refine aA rfl rfl hF ?_; clear hF; intro gg ww hF; simp only [nf] at hF)
   | (refine aB rfl rfl hF rfl ?_; clear hF; intro gg ww hF; simp only [nf] at hF)
   | (refine iL (t := 3) hF rfl rfl fun ho hx hb => ?_; refine aC (v := .int _ _) ho hb hx hF rfl rfl ?_; clear ho hx hb)
   | (refine iL hF rfl rfl fun ho hx hb => ?_; (first | refine aL ho hb hx hF rfl rfl ?_ | refine aC (v := .slice _ _ _) ho hb hx hF rfl rfl ?_ | refine aC (v := .string _) ho hb hx hF rfl rfl ?_ | refine aC (v := .bool _) ho hb hx hF rfl rfl ?_); clear ho hx hb)
   | (refine iS hF rfl rfl fun ho hx hb => ?_; (first | refine aS ho hb hx hF rfl rfl rfl rfl ?_ | refine aT (v := .int _ _) ho hb hx hF rfl rfl rfl rfl ?_ | refine aT (v := .slice _ _ _) ho hb hx hF rfl rfl rfl rfl ?_ | refine aT (v := .bool _) ho hb hx hF rfl rfl rfl rfl ?_); clear ho hx hb hF; intro ww hF; simp only [nf] at hF)
   )
  refine bodyPost_ret (results2 Tryz.results34 (res_cell 0 hF rfl rfl rfl) (.tmp _)) rfl ⟨by rw [hv.out]; rfl, hF.below⟩
 | some r =>
  obtain ⟨r0, r1, r2, u, r4, r5, r6, r7, q1, q2, q3, q4, q5, q6, q7⟩ := r
  cases u with
  | true =>
   have hv : Hid (activeO rs now key = none) := HV.out
   go_enter Tryz.func34, Tryz.ntmps34
   go_wp2_with (first
    | go_skip
    | (refine aA rfl rfl hF ?_; clear hF; intro gg ww hF; simp only [nf] at hF)
    | (refine aB rfl rfl hF rfl ?_; clear hF; intro gg ww hF; simp only [nf] at hF)
    | (refine iL (t := 3) hF rfl rfl fun ho hx hb => ?_; refine aC (v := .int _ _) ho hb hx hF rfl rfl ?_; clear ho hx hb)
    | (refine iL hF rfl rfl fun ho hx hb => ?_; (first | refine aL ho hb hx hF rfl rfl ?_ | refine aC (v := .slice _ _ _) ho hb hx hF rfl rfl ?_ | refine aC (v := .string _) ho hb hx hF rfl rfl ?_ | refine aC (v := .bool _) ho hb hx hF rfl rfl ?_); clear ho hx hb)
    | (refine iS hF rfl rfl fun ho hx hb => ?_; (first | refine aS ho hb hx hF rfl rfl rfl rfl ?_ | refine aT (v := .int _ _) ho hb hx hF rfl rfl rfl rfl ?_ | refine aT (v := .slice _ _ _) ho hb hx hF rfl rfl rfl rfl ?_ | refine aT (v := .bool _) ho hb hx hF rfl rfl rfl rfl ?_); clear ho hx hb hF; intro ww hF; simp only [nf] at hF)
    )
   refine (ct.out _ hF.data).mono ?_
   rintro _ w1 ⟨rfl, hbn⟩
   replace hF := hF.call hbn
   clear hbn
   go_wp2_with (first
    | go_skip
    | (refine aA rfl rfl hF ?_; clear hF; intro gg ww hF; simp only [nf] at hF)
    | (refine aB rfl rfl hF rfl ?_; clear hF; intro gg ww hF; simp only [nf] at hF)
    | (refine iL (t := 3) hF rfl rfl fun ho hx hb => ?_; refine aC (v := .int _ _) ho hb hx hF rfl rfl ?_; clear ho hx hb)
    | (refine iL hF rfl rfl fun ho hx hb => ?_; (first | refine aL ho hb hx hF rfl rfl ?_ | refine aC (v := .slice _ _ _) ho hb hx hF rfl rfl ?_ | refine aC (v := .string _) ho hb hx hF rfl rfl ?_ | refine aC (v := .bool _) ho hb hx hF rfl rfl ?_); clear ho hx hb)
    | (refine iS hF rfl rfl fun ho hx hb => ?_; (first | refine aS ho hb hx hF rfl rfl rfl rfl ?_ | refine aT (v := .int _ _) ho hb hx hF rfl rfl rfl rfl ?_ | refine aT (v := .slice _ _ _) ho hb hx hF rfl rfl rfl rfl ?_ | refine aT (v := .bool _) ho hb hx hF rfl rfl rfl rfl ?_); clear ho hx hb hF; intro ww hF; simp only [nf] at hF)
    )
   refine bodyPost_ret (results2 Tryz.results34 (res_cell 0 hF rfl rfl rfl) (.tmp _)) rfl ⟨by rw [hv.out]; rfl, hF.below⟩
  | false =>
   have hv : Hid (activeO rs now key = some ⟨r0, r1, r2, false, r4, r5, r6, r7, q1, q2, q3, q4, q5, q6, q7⟩) := HV.out
   go_enter Tryz.func34, Tryz.ntmps34
   go_wp2_with (first
    | go_skip
    | (refine aA rfl rfl hF ?_; clear hF; intro gg ww hF; simp only [nf] at hF)
    | (refine aB rfl rfl hF rfl ?_; clear hF; intro gg ww hF; simp only [nf] at hF)
    | (refine iL (t := 3) hF rfl rfl fun ho hx hb => ?_; refine aC (v := .int _ _) ho hb hx hF rfl rfl ?_; clear ho hx hb)
    | (refine iL hF rfl rfl fun ho hx hb => ?_; (first | refine aL ho hb hx hF rfl rfl ?_ | refine aC (v := .slice _ _ _) ho hb hx hF rfl rfl ?_ | refine aC (v := .string _) ho hb hx hF rfl rfl ?_ | refine aC (v := .bool _) ho hb hx hF rfl rfl ?_); clear ho hx hb)
    | (refine iS hF rfl rfl fun ho hx hb => ?_; (first | refine aS ho hb hx hF rfl rfl rfl rfl ?_ | refine aT (v := .int _ _) ho hb hx hF rfl rfl rfl rfl ?_ | refine aT (v := .slice _ _ _) ho hb hx hF rfl rfl rfl rfl ?_ | refine aT (v := .bool _) ho hb hx hF rfl rfl rfl rfl ?_); clear ho hx hb hF; intro ww hF; simp only [nf] at hF)
    )
   refine (ct.out _ hF.data).mono ?_
   rintro _ w1 ⟨rfl, hbn⟩
   replace hF := hF.call hbn
   clear hbn
   go_wp2_with (first
    | go_skip
    | (refine aA rfl rfl hF ?_; clear hF; intro gg ww hF; simp only [nf] at hF)
    | (refine aB rfl rfl hF rfl ?_; clear hF; intro gg ww hF; simp only [nf] at hF)
    | (refine iL (t := 3) hF rfl rfl fun ho hx hb => ?_; refine aC (v := .int _ _) ho hb hx hF rfl rfl ?_; clear ho hx hb)
    | (refine iL hF rfl rfl fun ho hx hb => ?_; (first | refine aL ho hb hx hF rfl rfl ?_ | refine aC (v := .slice _ _ _) ho hb hx hF rfl rfl ?_ | refine aC (v := .string _) ho hb hx hF rfl rfl ?_ | refine aC (v := .bool _) ho hb hx hF rfl rfl ?_); clear ho hx hb)
    | (refine iS hF rfl rfl fun ho hx hb => ?_; (first | refine aS ho hb hx hF rfl rfl rfl rfl ?_ | refine aT (v := .int _ _) ho hb hx hF rfl rfl rfl rfl ?_ | refine aT (v := .slice _ _ _) ho hb hx hF rfl rfl rfl rfl ?_ | refine aT (v := .bool _) ho hb hx hF rfl rfl rfl rfl ?_); clear ho hx hb hF; intro ww hF; simp only [nf] at hF)
    )
   refine bodyPost_ret (results2 Tryz.results34 (res_cell 0 hF rfl rfl rfl) (.tmp _)) rfl ⟨by rw [hv.out]; rfl, hF.below⟩
theorem active_walk :
  Calls Tryz.prog 10 #[.agg (stA b.nm b.key CA cl.length cc UA b.us.length uc RA rs.length rc), .int .i64 now, .int .i64 key] w (RecO (activeO rs now key) w) := by
 have hF := Fr.start w (kp_start hr)
 have ct := Lib.hid (fun W h => fresh_walk b rs now key cl CA cc UA uc RA rc W h)
 have hmf : ∀ (fn : Fn) (first cap : Array Value) (w : World), (Instr.makeFunc fn first cap).run Tryz.prog w = .ok (.func fn first cap) w := fun _ _ _ _ => rfl
 clear hr
 go_enter Tryz.func10, Tryz.ntmps10
 go_wp2_with (first
  | go_skip
  | (refine aA rfl rfl hF ?_; clear hF; intro gg ww hF; simp only [nf] at hF)
  | (refine aB rfl rfl hF rfl ?_; clear hF; intro gg ww hF; simp only [nf] at hF)
  | (refine iL (t := 3) hF rfl rfl fun ho hx hb => ?_; refine aC (v := .int _ _) ho hb hx hF rfl rfl ?_; clear ho hx hb)
  | (refine iL hF rfl rfl fun ho hx hb => ?_; (first | refine aL ho hb hx hF rfl rfl ?_ | refine aC (v := .slice _ _ _) ho hb hx hF rfl rfl ?_ | refine aC (v := .string _) ho hb hx hF rfl rfl ?_ | refine aC (v := .bool _) ho hb hx hF rfl rfl ?_); clear ho hx hb)
  | (refine iS hF rfl rfl fun ho hx hb => ?_; (first | refine aS ho hb hx hF rfl rfl rfl rfl ?_ | refine aT (v := .int _ _) ho hb hx hF rfl rfl rfl rfl ?_ | refine aT (v := .slice _ _ _) ho hb hx hF rfl rfl rfl rfl ?_ | refine aT (v := .bool _) ho hb hx hF rfl rfl rfl rfl ?_); clear ho hx hb hF; intro ww hF; simp only [nf] at hF)
  | (refine aV 83 (.agg (lsA b.nm b.key CA cl.length cc UA b.us.length uc RA rs.length rc now)) rfl (fun _ => by kernel_rfl) rfl ?_)
  )
 refine (ct.out _ hF.data).mono ?_
 rintro _ w1 ⟨rfl, hbn⟩
 replace hF := hF.call hbn
 clear hbn
 go_wp2_with (first
  | go_skip
  | (refine aA rfl rfl hF ?_; clear hF; intro gg ww hF; simp only [nf] at hF)
  | (refine aB rfl rfl hF rfl ?_; clear hF; intro gg ww hF; simp only [nf] at hF)
  | (refine iL (t := 3) hF rfl rfl fun ho hx hb => ?_; refine aC (v := .int _ _) ho hb hx hF rfl rfl ?_; clear ho hx hb)
  | (refine iL hF rfl rfl fun ho hx hb => ?_; (first | refine aL ho hb hx hF rfl rfl ?_ | refine aC (v := .slice _ _ _) ho hb hx hF rfl rfl ?_ | refine aC (v := .string _) ho hb hx hF rfl rfl ?_ | refine aC (v := .bool _) ho hb hx hF rfl rfl ?_); clear ho hx hb)
  | (refine iS hF rfl rfl fun ho hx hb => ?_; (first | refine aS ho hb hx hF rfl rfl rfl rfl ?_ | refine aT (v := .int _ _) ho hb hx hF rfl rfl rfl rfl ?_ | refine aT (v := .slice _ _ _) ho hb hx hF rfl rfl rfl rfl ?_ | refine aT (v := .bool _) ho hb hx hF rfl rfl rfl rfl ?_); clear ho hx hb hF; intro ww hF; simp only [nf] at hF)
  )
 refine bodyPost_ret (results2 Tryz.results10 (res_cell 1 hF rfl rfl rfl) (.tmp _)) rfl ⟨rfl, hF.below⟩
end
end Go.Proofs.YtnhjgocdepbajaaGreat
