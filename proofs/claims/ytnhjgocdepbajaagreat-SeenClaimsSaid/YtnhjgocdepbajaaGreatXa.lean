/- countersignref21.both and Agree. Conditions: numbers and rows of sizes that a machine bears. Printed by wip/tools/genXa.py. -/
import Derived.Test.YtnhjgocdepbajaaGreatXz
set_option linter.unusedVariables false
set_option linter.unusedSimpArgs false
set_option maxRecDepth 20000
set_option maxHeartbeats 8000000
namespace Go.Proofs.YtnhjgocdepbajaaGreat
open Go.RowKit S19 C17 R
theorem want_part (r : Rc) : ∀ (j : Nat) u, (wantOf r).cells[j]? = some u → r.arr[8 + j]? = some u := by
 intro j u h
 have e : (wantOf r).cells = r.cells.drop 8 := rfl
 rw [e, List.getElem?_drop] at h
 simpa [Rc.arr] using h
theorem rboth_walk (b : Bs) (rs : List Rc) (now sess door : Int) (cl : List Cl) (CA : Option Addr) (cc : Nat) (UA : Option Addr) (uc : Nat) (RA : Option Addr) (rc : Nat) (w : World) (hr : RecsAt w RA rc rs) :
  Calls Tryz.prog 98 #[.agg (stA b.nm b.key CA cl.length cc UA b.us.length uc RA rs.length rc), .int .i64 now, .int .i64 sess, .int .i64 door] w fun e w' =>
   e = .returned (.tuple #[.agg ((findO rs now 2 sess).getD Rc.none).arr, .agg ((findO rs now 3 door).getD Rc.none).arr, .bool (bothO rs now sess door).isSome]) ∧ Below w.heap.size w w' := by
 have hF := Fr.start w (kp_start hr)
 have c2 := Lib.hid (fun W h => S19.rfind_walk rs RA rc now 2 sess W h)
 have c3 := Lib.hid (fun W h => S19.rfind_walk rs RA rc now 3 door W h)
 have HV : Hid (bothO rs now sess door = match findO rs now 2 sess with
  | none => none
  | some a => match findO rs now 3 door with
   | none => none
   | some b => if b.sess = sess then some (a, b) else none) := rfl
 clear hr
 generalize findO rs now 2 sess = o2 at c2 HV ⊢
 generalize findO rs now 3 door = o3 at c3 HV ⊢
 cases o2 with
 | none =>
  have hv : Hid (bothO rs now sess door = none) := HV.out
  generalize o3.isSome = b3 at c3
  go_enter Tryz.func98, Tryz.ntmps98
  go_wp2_with (first
   | go_skip
   | (refine aA rfl rfl hF ?_; clear hF; intro gg ww hF; simp only [nf] at hF)
   | (refine aB rfl rfl hF rfl ?_; clear hF; intro gg ww hF; simp only [nf] at hF)
   | (refine iL (t := 3) hF rfl rfl fun ho hx hb => ?_; refine aC (v := .int _ _) ho hb hx hF rfl rfl ?_; clear ho hx hb)
   | (refine iL hF rfl rfl fun ho hx hb => ?_; (first | refine aL ho hb hx hF rfl rfl ?_ | refine aC (v := .slice _ _ _) ho hb hx hF rfl rfl ?_ | refine aC (v := .string _) ho hb hx hF rfl rfl ?_ | refine aC (v := .bool _) ho hb hx hF rfl rfl ?_); clear ho hx hb)
   | (refine iS hF rfl rfl fun ho hx hb => ?_; (first | refine aS ho hb hx hF rfl rfl rfl rfl ?_ | refine aT (v := .int _ _) ho hb hx hF rfl rfl rfl rfl ?_ | refine aT (v := .slice _ _ _) ho hb hx hF rfl rfl rfl rfl ?_ | refine aT (v := .bool _) ho hb hx hF rfl rfl rfl rfl ?_); clear ho hx hb hF; intro ww hF; simp only [nf] at hF)
   )
  refine (c2.out _ hF.data).mono ?_
  rintro _ w1 ⟨rfl, hbn⟩
  replace hF := hF.call hbn
  clear hbn
  go_wp2_with (first
   | go_skip
   | (refine aA rfl rfl hF ?_; clear hF; intro gg ww hF; simp only [nf] at hF)
   | (refine aB rfl rfl hF rfl ?_; clear hF; intro gg ww hF; simp only [nf] at hF)
   | (refine iL (t := 3) hF rfl rfl fun ho hx hb => ?_; refine aC (v := .int _ _) ho hb hx hF rfl rfl ?_; clear ho hx hb)
   | (refine iL hF rfl rfl fun ho hx hb => ?_; (first | refine aL ho hb hx hF rfl rfl ?_ | refine aC (v := .slice _ _ _) ho hb hx hF rfl rfl ?_ | refine aC (v := .string _) ho hb hx hF rfl rfl ?_ | refine aC (v := .bool _) ho hb hx hF rfl rfl ?_); clear ho hx hb)
   | (refine iS hF rfl rfl fun ho hx hb => ?_; (first | refine aS ho hb hx hF rfl rfl rfl rfl ?_ | refine aT (v := .int _ _) ho hb hx hF rfl rfl rfl rfl ?_ | refine aT (v := .slice _ _ _) ho hb hx hF rfl rfl rfl rfl ?_ | refine aT (v := .bool _) ho hb hx hF rfl rfl rfl rfl ?_); clear ho hx hb hF; intro ww hF; simp only [nf] at hF)
   )
  refine (c3.out _ hF.data).mono ?_
  rintro _ w2 ⟨rfl, hbn⟩
  replace hF := hF.call hbn
  clear hbn
  go_wp2_with (first
   | go_skip
   | (refine aA rfl rfl hF ?_; clear hF; intro gg ww hF; simp only [nf] at hF)
   | (refine aB rfl rfl hF rfl ?_; clear hF; intro gg ww hF; simp only [nf] at hF)
   | (refine iL (t := 3) hF rfl rfl fun ho hx hb => ?_; refine aC (v := .int _ _) ho hb hx hF rfl rfl ?_; clear ho hx hb)
   | (refine iL hF rfl rfl fun ho hx hb => ?_; (first | refine aL ho hb hx hF rfl rfl ?_ | refine aC (v := .slice _ _ _) ho hb hx hF rfl rfl ?_ | refine aC (v := .string _) ho hb hx hF rfl rfl ?_ | refine aC (v := .bool _) ho hb hx hF rfl rfl ?_); clear ho hx hb)
   | (refine iS hF rfl rfl fun ho hx hb => ?_; (first | refine aS ho hb hx hF rfl rfl rfl rfl ?_ | refine aT (v := .int _ _) ho hb hx hF rfl rfl rfl rfl ?_ | refine aT (v := .slice _ _ _) ho hb hx hF rfl rfl rfl rfl ?_ | refine aT (v := .bool _) ho hb hx hF rfl rfl rfl rfl ?_); clear ho hx hb hF; intro ww hF; simp only [nf] at hF)
   )
  refine rgw [] [_, _] hF (.cons _ (.cons _ (.cons _ (.cons_cons _ (.cons_cons _ .slnil))))) fun hF => ?_
  refine tkb 0 0 [] rfl rfl rfl rfl rfl ?_
  try simp only [nrm, Act.put]
  refine tkb 1 1 [] rfl rfl rfl rfl rfl ?_
  try simp only [nrm, Act.put]
  refine tkf 2 rfl ?_
  try simp only [nrm, Act.put]
  refine tkf 3 rfl ?_
  try simp only [nrm, Act.put]
  refine tkn 4 [] rfl ?_
  try simp only [nrm, Act.put]
  refine tkf 5 rfl ?_
  try simp only [nrm, Act.put]
  refine tkf 6 rfl ?_
  try simp only [nrm, Act.put]
  refine tkn 7 [] rfl ?_
  try simp only [nrm, Act.put]
  refine tkn 8 [] rfl ?_
  try simp only [nrm, Act.put]
  refine tkn 9 [] rfl ?_
  try simp only [nrm, Act.put]
  refine tkn 10 [] rfl ?_
  try simp only [nrm, Act.put]
  refine tkf 11 rfl ?_
  try simp only [nrm, Act.put]
  refine stw 12 1 hF rfl rfl rfl rfl rfl rfl rfl rfl ?_
  clear hF; intro ww hF; simp only [nf] at hF
  try simp only [nrm, Act.put]
  refine stw 13 2 hF rfl rfl rfl rfl rfl rfl rfl rfl ?_
  clear hF; intro ww hF; simp only [nf] at hF
  try simp only [nrm, Act.put]
  refine tkf 14 rfl ?_
  try simp only [nrm, Act.put]
  refine dnw ?_
  go_wp2_with (first
   | go_skip
   | (refine aA rfl rfl hF ?_; clear hF; intro gg ww hF; simp only [nf] at hF)
   | (refine aB rfl rfl hF rfl ?_; clear hF; intro gg ww hF; simp only [nf] at hF)
   | (refine iL (t := 3) hF rfl rfl fun ho hx hb => ?_; refine aC (v := .int _ _) ho hb hx hF rfl rfl ?_; clear ho hx hb)
   | (refine iL hF rfl rfl fun ho hx hb => ?_; (first | refine aL ho hb hx hF rfl rfl ?_ | refine aC (v := .slice _ _ _) ho hb hx hF rfl rfl ?_ | refine aC (v := .string _) ho hb hx hF rfl rfl ?_ | refine aC (v := .bool _) ho hb hx hF rfl rfl ?_); clear ho hx hb)
   | (refine iS hF rfl rfl fun ho hx hb => ?_; (first | refine aS ho hb hx hF rfl rfl rfl rfl ?_ | refine aT (v := .int _ _) ho hb hx hF rfl rfl rfl rfl ?_ | refine aT (v := .slice _ _ _) ho hb hx hF rfl rfl rfl rfl ?_ | refine aT (v := .bool _) ho hb hx hF rfl rfl rfl rfl ?_); clear ho hx hb hF; intro ww hF; simp only [nf] at hF)
   )
  refine bodyPost_ret (results3 Tryz.results98 (res_cell 1 hF rfl rfl rfl) (res_cell 2 hF rfl rfl rfl) (.tmp _)) rfl ⟨?_, hF.below⟩
  rw [hv.out]
  rfl
 | some a =>
  cases o3 with
  | none =>
   have hv : Hid (bothO rs now sess door = none) := HV.out
   go_enter Tryz.func98, Tryz.ntmps98
   go_wp2_with (first
    | go_skip
    | (refine aA rfl rfl hF ?_; clear hF; intro gg ww hF; simp only [nf] at hF)
    | (refine aB rfl rfl hF rfl ?_; clear hF; intro gg ww hF; simp only [nf] at hF)
    | (refine iL (t := 3) hF rfl rfl fun ho hx hb => ?_; refine aC (v := .int _ _) ho hb hx hF rfl rfl ?_; clear ho hx hb)
    | (refine iL hF rfl rfl fun ho hx hb => ?_; (first | refine aL ho hb hx hF rfl rfl ?_ | refine aC (v := .slice _ _ _) ho hb hx hF rfl rfl ?_ | refine aC (v := .string _) ho hb hx hF rfl rfl ?_ | refine aC (v := .bool _) ho hb hx hF rfl rfl ?_); clear ho hx hb)
    | (refine iS hF rfl rfl fun ho hx hb => ?_; (first | refine aS ho hb hx hF rfl rfl rfl rfl ?_ | refine aT (v := .int _ _) ho hb hx hF rfl rfl rfl rfl ?_ | refine aT (v := .slice _ _ _) ho hb hx hF rfl rfl rfl rfl ?_ | refine aT (v := .bool _) ho hb hx hF rfl rfl rfl rfl ?_); clear ho hx hb hF; intro ww hF; simp only [nf] at hF)
    )
   refine (c2.out _ hF.data).mono ?_
   rintro _ w1 ⟨rfl, hbn⟩
   replace hF := hF.call hbn
   clear hbn
   go_wp2_with (first
    | go_skip
    | (refine aA rfl rfl hF ?_; clear hF; intro gg ww hF; simp only [nf] at hF)
    | (refine aB rfl rfl hF rfl ?_; clear hF; intro gg ww hF; simp only [nf] at hF)
    | (refine iL (t := 3) hF rfl rfl fun ho hx hb => ?_; refine aC (v := .int _ _) ho hb hx hF rfl rfl ?_; clear ho hx hb)
    | (refine iL hF rfl rfl fun ho hx hb => ?_; (first | refine aL ho hb hx hF rfl rfl ?_ | refine aC (v := .slice _ _ _) ho hb hx hF rfl rfl ?_ | refine aC (v := .string _) ho hb hx hF rfl rfl ?_ | refine aC (v := .bool _) ho hb hx hF rfl rfl ?_); clear ho hx hb)
    | (refine iS hF rfl rfl fun ho hx hb => ?_; (first | refine aS ho hb hx hF rfl rfl rfl rfl ?_ | refine aT (v := .int _ _) ho hb hx hF rfl rfl rfl rfl ?_ | refine aT (v := .slice _ _ _) ho hb hx hF rfl rfl rfl rfl ?_ | refine aT (v := .bool _) ho hb hx hF rfl rfl rfl rfl ?_); clear ho hx hb hF; intro ww hF; simp only [nf] at hF)
    )
   refine (c3.out _ hF.data).mono ?_
   rintro _ w2 ⟨rfl, hbn⟩
   replace hF := hF.call hbn
   clear hbn
   go_wp2_with (first
    | go_skip
    | (refine aA rfl rfl hF ?_; clear hF; intro gg ww hF; simp only [nf] at hF)
    | (refine aB rfl rfl hF rfl ?_; clear hF; intro gg ww hF; simp only [nf] at hF)
    | (refine iL (t := 3) hF rfl rfl fun ho hx hb => ?_; refine aC (v := .int _ _) ho hb hx hF rfl rfl ?_; clear ho hx hb)
    | (refine iL hF rfl rfl fun ho hx hb => ?_; (first | refine aL ho hb hx hF rfl rfl ?_ | refine aC (v := .slice _ _ _) ho hb hx hF rfl rfl ?_ | refine aC (v := .string _) ho hb hx hF rfl rfl ?_ | refine aC (v := .bool _) ho hb hx hF rfl rfl ?_); clear ho hx hb)
    | (refine iS hF rfl rfl fun ho hx hb => ?_; (first | refine aS ho hb hx hF rfl rfl rfl rfl ?_ | refine aT (v := .int _ _) ho hb hx hF rfl rfl rfl rfl ?_ | refine aT (v := .slice _ _ _) ho hb hx hF rfl rfl rfl rfl ?_ | refine aT (v := .bool _) ho hb hx hF rfl rfl rfl rfl ?_); clear ho hx hb hF; intro ww hF; simp only [nf] at hF)
    )
   refine rgw [] [_, _] hF (.cons _ (.cons _ (.cons _ (.cons_cons _ (.cons_cons _ .slnil))))) fun hF => ?_
   refine tkb 0 0 [] rfl rfl rfl rfl rfl ?_
   try simp only [nrm, Act.put]
   refine tkb 1 1 [] rfl rfl rfl rfl rfl ?_
   try simp only [nrm, Act.put]
   refine tkf 2 rfl ?_
   try simp only [nrm, Act.put]
   refine tkf 3 rfl ?_
   try simp only [nrm, Act.put]
   refine tkf 4 rfl ?_
   try simp only [nrm, Act.put]
   refine tkf 5 rfl ?_
   try simp only [nrm, Act.put]
   refine tkf 6 rfl ?_
   try simp only [nrm, Act.put]
   refine tkn 7 [] rfl ?_
   try simp only [nrm, Act.put]
   refine tkn 8 [] rfl ?_
   try simp only [nrm, Act.put]
   refine tkn 9 [] rfl ?_
   try simp only [nrm, Act.put]
   refine tkn 10 [] rfl ?_
   try simp only [nrm, Act.put]
   refine tkf 11 rfl ?_
   try simp only [nrm, Act.put]
   refine stw 12 1 hF rfl rfl rfl rfl rfl rfl rfl rfl ?_
   clear hF; intro ww hF; simp only [nf] at hF
   try simp only [nrm, Act.put]
   refine stw 13 2 hF rfl rfl rfl rfl rfl rfl rfl rfl ?_
   clear hF; intro ww hF; simp only [nf] at hF
   try simp only [nrm, Act.put]
   refine tkf 14 rfl ?_
   try simp only [nrm, Act.put]
   refine dnw ?_
   go_wp2_with (first
    | go_skip
    | (refine aA rfl rfl hF ?_; clear hF; intro gg ww hF; simp only [nf] at hF)
    | (refine aB rfl rfl hF rfl ?_; clear hF; intro gg ww hF; simp only [nf] at hF)
    | (refine iL (t := 3) hF rfl rfl fun ho hx hb => ?_; refine aC (v := .int _ _) ho hb hx hF rfl rfl ?_; clear ho hx hb)
    | (refine iL hF rfl rfl fun ho hx hb => ?_; (first | refine aL ho hb hx hF rfl rfl ?_ | refine aC (v := .slice _ _ _) ho hb hx hF rfl rfl ?_ | refine aC (v := .string _) ho hb hx hF rfl rfl ?_ | refine aC (v := .bool _) ho hb hx hF rfl rfl ?_); clear ho hx hb)
    | (refine iS hF rfl rfl fun ho hx hb => ?_; (first | refine aS ho hb hx hF rfl rfl rfl rfl ?_ | refine aT (v := .int _ _) ho hb hx hF rfl rfl rfl rfl ?_ | refine aT (v := .slice _ _ _) ho hb hx hF rfl rfl rfl rfl ?_ | refine aT (v := .bool _) ho hb hx hF rfl rfl rfl rfl ?_); clear ho hx hb hF; intro ww hF; simp only [nf] at hF)
    )
   refine bodyPost_ret (results3 Tryz.results98 (res_cell 1 hF rfl rfl rfl) (res_cell 2 hF rfl rfl rfl) (.tmp _)) rfl ⟨?_, hF.below⟩
   rw [hv.out]
   rfl
  | some d =>
   by_cases he : d.sess = sess
   ·
    have hv : Hid (bothO rs now sess door = some (a, d)) := by show _ = _; rw [HV.out]; simp only [he, if_true]
    have h1 : (d.sess == sess) = true := by simpa using he
    clear he HV
    go_enter Tryz.func98, Tryz.ntmps98
    go_wp2_with (first
     | go_skip
     | (refine aA rfl rfl hF ?_; clear hF; intro gg ww hF; simp only [nf] at hF)
     | (refine aB rfl rfl hF rfl ?_; clear hF; intro gg ww hF; simp only [nf] at hF)
     | (refine iL (t := 3) hF rfl rfl fun ho hx hb => ?_; refine aC (v := .int _ _) ho hb hx hF rfl rfl ?_; clear ho hx hb)
     | (refine iL hF rfl rfl fun ho hx hb => ?_; (first | refine aL ho hb hx hF rfl rfl ?_ | refine aC (v := .slice _ _ _) ho hb hx hF rfl rfl ?_ | refine aC (v := .string _) ho hb hx hF rfl rfl ?_ | refine aC (v := .bool _) ho hb hx hF rfl rfl ?_); clear ho hx hb)
     | (refine iS hF rfl rfl fun ho hx hb => ?_; (first | refine aS ho hb hx hF rfl rfl rfl rfl ?_ | refine aT (v := .int _ _) ho hb hx hF rfl rfl rfl rfl ?_ | refine aT (v := .slice _ _ _) ho hb hx hF rfl rfl rfl rfl ?_ | refine aT (v := .bool _) ho hb hx hF rfl rfl rfl rfl ?_); clear ho hx hb hF; intro ww hF; simp only [nf] at hF)
     )
    refine (c2.out _ hF.data).mono ?_
    rintro _ w1 ⟨rfl, hbn⟩
    replace hF := hF.call hbn
    clear hbn
    go_wp2_with (first
     | go_skip
     | (refine aA rfl rfl hF ?_; clear hF; intro gg ww hF; simp only [nf] at hF)
     | (refine aB rfl rfl hF rfl ?_; clear hF; intro gg ww hF; simp only [nf] at hF)
     | (refine iL (t := 3) hF rfl rfl fun ho hx hb => ?_; refine aC (v := .int _ _) ho hb hx hF rfl rfl ?_; clear ho hx hb)
     | (refine iL hF rfl rfl fun ho hx hb => ?_; (first | refine aL ho hb hx hF rfl rfl ?_ | refine aC (v := .slice _ _ _) ho hb hx hF rfl rfl ?_ | refine aC (v := .string _) ho hb hx hF rfl rfl ?_ | refine aC (v := .bool _) ho hb hx hF rfl rfl ?_); clear ho hx hb)
     | (refine iS hF rfl rfl fun ho hx hb => ?_; (first | refine aS ho hb hx hF rfl rfl rfl rfl ?_ | refine aT (v := .int _ _) ho hb hx hF rfl rfl rfl rfl ?_ | refine aT (v := .slice _ _ _) ho hb hx hF rfl rfl rfl rfl ?_ | refine aT (v := .bool _) ho hb hx hF rfl rfl rfl rfl ?_); clear ho hx hb hF; intro ww hF; simp only [nf] at hF)
     )
    refine (c3.out _ hF.data).mono ?_
    rintro _ w2 ⟨rfl, hbn⟩
    replace hF := hF.call hbn
    clear hbn
    go_wp2_with (first
     | go_skip
     | (refine aA rfl rfl hF ?_; clear hF; intro gg ww hF; simp only [nf] at hF)
     | (refine aB rfl rfl hF rfl ?_; clear hF; intro gg ww hF; simp only [nf] at hF)
     | (refine iL (t := 3) hF rfl rfl fun ho hx hb => ?_; refine aC (v := .int _ _) ho hb hx hF rfl rfl ?_; clear ho hx hb)
     | (refine iL hF rfl rfl fun ho hx hb => ?_; (first | refine aL ho hb hx hF rfl rfl ?_ | refine aC (v := .slice _ _ _) ho hb hx hF rfl rfl ?_ | refine aC (v := .string _) ho hb hx hF rfl rfl ?_ | refine aC (v := .bool _) ho hb hx hF rfl rfl ?_); clear ho hx hb)
     | (refine iS hF rfl rfl fun ho hx hb => ?_; (first | refine aS ho hb hx hF rfl rfl rfl rfl ?_ | refine aT (v := .int _ _) ho hb hx hF rfl rfl rfl rfl ?_ | refine aT (v := .slice _ _ _) ho hb hx hF rfl rfl rfl rfl ?_ | refine aT (v := .bool _) ho hb hx hF rfl rfl rfl rfl ?_); clear ho hx hb hF; intro ww hF; simp only [nf] at hF)
     )
    refine rgw [] [_, _] hF (.cons _ (.cons _ (.cons _ (.cons_cons _ (.cons_cons _ .slnil))))) fun hF => ?_
    refine tkb 0 0 [] rfl rfl rfl rfl rfl ?_
    try simp only [nrm, Act.put]
    refine tkb 1 1 [] rfl rfl rfl rfl rfl ?_
    try simp only [nrm, Act.put]
    refine tkf 2 rfl ?_
    try simp only [nrm, Act.put]
    refine tkf 3 rfl ?_
    try simp only [nrm, Act.put]
    refine tkf 4 rfl ?_
    try simp only [nrm, Act.put]
    refine tkf 5 rfl ?_
    try simp only [nrm, Act.put]
    refine tkf 6 rfl ?_
    try simp only [nrm, Act.put]
    refine tkf 7 rfl ?_
    try simp only [nrm, Act.put]
    refine tkc 8 1 [] (v := .int _ _) rfl rfl rfl rfl rfl ?_
    try simp only [nrm, Act.put]
    refine tkf 9 rfl ?_
    try simp only [nrm, Act.put]
    refine tkf 10 rfl ?_
    try simp only [nrm, Act.put]
    refine tkf 11 rfl ?_
    try simp only [nrm, Act.put]
    refine stw 12 1 hF rfl rfl rfl rfl rfl rfl rfl rfl ?_
    clear hF; intro ww hF; simp only [nf] at hF
    try simp only [nrm, Act.put]
    refine stw 13 2 hF rfl rfl rfl rfl rfl rfl rfl rfl ?_
    clear hF; intro ww hF; simp only [nf] at hF
    try simp only [nrm, Act.put]
    refine tkf 14 rfl ?_
    try simp only [nrm, Act.put]
    refine dnw ?_
    go_wp2_with (first
     | go_skip
     | (refine aA rfl rfl hF ?_; clear hF; intro gg ww hF; simp only [nf] at hF)
     | (refine aB rfl rfl hF rfl ?_; clear hF; intro gg ww hF; simp only [nf] at hF)
     | (refine iL (t := 3) hF rfl rfl fun ho hx hb => ?_; refine aC (v := .int _ _) ho hb hx hF rfl rfl ?_; clear ho hx hb)
     | (refine iL hF rfl rfl fun ho hx hb => ?_; (first | refine aL ho hb hx hF rfl rfl ?_ | refine aC (v := .slice _ _ _) ho hb hx hF rfl rfl ?_ | refine aC (v := .string _) ho hb hx hF rfl rfl ?_ | refine aC (v := .bool _) ho hb hx hF rfl rfl ?_); clear ho hx hb)
     | (refine iS hF rfl rfl fun ho hx hb => ?_; (first | refine aS ho hb hx hF rfl rfl rfl rfl ?_ | refine aT (v := .int _ _) ho hb hx hF rfl rfl rfl rfl ?_ | refine aT (v := .slice _ _ _) ho hb hx hF rfl rfl rfl rfl ?_ | refine aT (v := .bool _) ho hb hx hF rfl rfl rfl rfl ?_); clear ho hx hb hF; intro ww hF; simp only [nf] at hF)
     )
    refine bodyPost_ret (results3 Tryz.results98 (res_cell 1 hF rfl rfl rfl) (res_cell 2 hF rfl rfl rfl) (.tmp _)) rfl ⟨?_, hF.below⟩
    rw [hv.out]
    rfl
   ·
    have hv : Hid (bothO rs now sess door = none) := by show _ = _; rw [HV.out]; simp only [he, if_false]
    have h1 : (d.sess == sess) = false := by simpa using he
    clear he HV
    go_enter Tryz.func98, Tryz.ntmps98
    go_wp2_with (first
     | go_skip
     | (refine aA rfl rfl hF ?_; clear hF; intro gg ww hF; simp only [nf] at hF)
     | (refine aB rfl rfl hF rfl ?_; clear hF; intro gg ww hF; simp only [nf] at hF)
     | (refine iL (t := 3) hF rfl rfl fun ho hx hb => ?_; refine aC (v := .int _ _) ho hb hx hF rfl rfl ?_; clear ho hx hb)
     | (refine iL hF rfl rfl fun ho hx hb => ?_; (first | refine aL ho hb hx hF rfl rfl ?_ | refine aC (v := .slice _ _ _) ho hb hx hF rfl rfl ?_ | refine aC (v := .string _) ho hb hx hF rfl rfl ?_ | refine aC (v := .bool _) ho hb hx hF rfl rfl ?_); clear ho hx hb)
     | (refine iS hF rfl rfl fun ho hx hb => ?_; (first | refine aS ho hb hx hF rfl rfl rfl rfl ?_ | refine aT (v := .int _ _) ho hb hx hF rfl rfl rfl rfl ?_ | refine aT (v := .slice _ _ _) ho hb hx hF rfl rfl rfl rfl ?_ | refine aT (v := .bool _) ho hb hx hF rfl rfl rfl rfl ?_); clear ho hx hb hF; intro ww hF; simp only [nf] at hF)
     )
    refine (c2.out _ hF.data).mono ?_
    rintro _ w1 ⟨rfl, hbn⟩
    replace hF := hF.call hbn
    clear hbn
    go_wp2_with (first
     | go_skip
     | (refine aA rfl rfl hF ?_; clear hF; intro gg ww hF; simp only [nf] at hF)
     | (refine aB rfl rfl hF rfl ?_; clear hF; intro gg ww hF; simp only [nf] at hF)
     | (refine iL (t := 3) hF rfl rfl fun ho hx hb => ?_; refine aC (v := .int _ _) ho hb hx hF rfl rfl ?_; clear ho hx hb)
     | (refine iL hF rfl rfl fun ho hx hb => ?_; (first | refine aL ho hb hx hF rfl rfl ?_ | refine aC (v := .slice _ _ _) ho hb hx hF rfl rfl ?_ | refine aC (v := .string _) ho hb hx hF rfl rfl ?_ | refine aC (v := .bool _) ho hb hx hF rfl rfl ?_); clear ho hx hb)
     | (refine iS hF rfl rfl fun ho hx hb => ?_; (first | refine aS ho hb hx hF rfl rfl rfl rfl ?_ | refine aT (v := .int _ _) ho hb hx hF rfl rfl rfl rfl ?_ | refine aT (v := .slice _ _ _) ho hb hx hF rfl rfl rfl rfl ?_ | refine aT (v := .bool _) ho hb hx hF rfl rfl rfl rfl ?_); clear ho hx hb hF; intro ww hF; simp only [nf] at hF)
     )
    refine (c3.out _ hF.data).mono ?_
    rintro _ w2 ⟨rfl, hbn⟩
    replace hF := hF.call hbn
    clear hbn
    go_wp2_with (first
     | go_skip
     | (refine aA rfl rfl hF ?_; clear hF; intro gg ww hF; simp only [nf] at hF)
     | (refine aB rfl rfl hF rfl ?_; clear hF; intro gg ww hF; simp only [nf] at hF)
     | (refine iL (t := 3) hF rfl rfl fun ho hx hb => ?_; refine aC (v := .int _ _) ho hb hx hF rfl rfl ?_; clear ho hx hb)
     | (refine iL hF rfl rfl fun ho hx hb => ?_; (first | refine aL ho hb hx hF rfl rfl ?_ | refine aC (v := .slice _ _ _) ho hb hx hF rfl rfl ?_ | refine aC (v := .string _) ho hb hx hF rfl rfl ?_ | refine aC (v := .bool _) ho hb hx hF rfl rfl ?_); clear ho hx hb)
     | (refine iS hF rfl rfl fun ho hx hb => ?_; (first | refine aS ho hb hx hF rfl rfl rfl rfl ?_ | refine aT (v := .int _ _) ho hb hx hF rfl rfl rfl rfl ?_ | refine aT (v := .slice _ _ _) ho hb hx hF rfl rfl rfl rfl ?_ | refine aT (v := .bool _) ho hb hx hF rfl rfl rfl rfl ?_); clear ho hx hb hF; intro ww hF; simp only [nf] at hF)
     )
    refine rgw [] [_, _] hF (.cons _ (.cons _ (.cons _ (.cons_cons _ (.cons_cons _ .slnil))))) fun hF => ?_
    refine tkb 0 0 [] rfl rfl rfl rfl rfl ?_
    try simp only [nrm, Act.put]
    refine tkb 1 1 [] rfl rfl rfl rfl rfl ?_
    try simp only [nrm, Act.put]
    refine tkf 2 rfl ?_
    try simp only [nrm, Act.put]
    refine tkf 3 rfl ?_
    try simp only [nrm, Act.put]
    refine tkf 4 rfl ?_
    try simp only [nrm, Act.put]
    refine tkf 5 rfl ?_
    try simp only [nrm, Act.put]
    refine tkf 6 rfl ?_
    try simp only [nrm, Act.put]
    refine tkf 7 rfl ?_
    try simp only [nrm, Act.put]
    refine tkc 8 1 [] (v := .int _ _) rfl rfl rfl rfl rfl ?_
    try simp only [nrm, Act.put]
    refine tkf 9 rfl ?_
    try simp only [nrm, Act.put]
    refine tkf 10 rfl ?_
    try simp only [nrm, Act.put]
    refine tkf 11 rfl ?_
    try simp only [nrm, Act.put]
    refine stw 12 1 hF rfl rfl rfl rfl rfl rfl rfl rfl ?_
    clear hF; intro ww hF; simp only [nf] at hF
    try simp only [nrm, Act.put]
    refine stw 13 2 hF rfl rfl rfl rfl rfl rfl rfl rfl ?_
    clear hF; intro ww hF; simp only [nf] at hF
    try simp only [nrm, Act.put]
    refine tkf 14 rfl ?_
    try simp only [nrm, Act.put]
    refine dnw ?_
    go_wp2_with (first
     | go_skip
     | (refine aA rfl rfl hF ?_; clear hF; intro gg ww hF; simp only [nf] at hF)
     | (refine aB rfl rfl hF rfl ?_; clear hF; intro gg ww hF; simp only [nf] at hF)
     | (refine iL (t := 3) hF rfl rfl fun ho hx hb => ?_; refine aC (v := .int _ _) ho hb hx hF rfl rfl ?_; clear ho hx hb)
     | (refine iL hF rfl rfl fun ho hx hb => ?_; (first | refine aL ho hb hx hF rfl rfl ?_ | refine aC (v := .slice _ _ _) ho hb hx hF rfl rfl ?_ | refine aC (v := .string _) ho hb hx hF rfl rfl ?_ | refine aC (v := .bool _) ho hb hx hF rfl rfl ?_); clear ho hx hb)
     | (refine iS hF rfl rfl fun ho hx hb => ?_; (first | refine aS ho hb hx hF rfl rfl rfl rfl ?_ | refine aT (v := .int _ _) ho hb hx hF rfl rfl rfl rfl ?_ | refine aT (v := .slice _ _ _) ho hb hx hF rfl rfl rfl rfl ?_ | refine aT (v := .bool _) ho hb hx hF rfl rfl rfl rfl ?_); clear ho hx hb hF; intro ww hF; simp only [nf] at hF)
     )
    refine bodyPost_ret (results3 Tryz.results98 (res_cell 1 hF rfl rfl rfl) (res_cell 2 hF rfl rfl rfl) (.tmp _)) rfl ⟨?_, hF.below⟩
    rw [hv.out]
    rfl
theorem both_some {rs : List Rc} {now sess door : Int} {a d : Rc} (h : bothO rs now sess door = some (a, d)) : findO rs now 2 sess = some a ∧ findO rs now 3 door = some d ∧ d.sess = sess := by
 rw [bothO] at h
 cases h2 : findO rs now 2 sess with
 | none => rw [h2] at h; cases h
 | some a' =>
  cases h3 : findO rs now 3 door with
  | none => rw [h2, h3] at h; cases h
  | some d' =>
   rw [h2, h3] at h
   by_cases hs : d'.sess = sess
   ·
    simp only [hs, if_true] at h
    injection h with e
    injection e with e1 e2
    subst e1 e2
    exact ⟨rfl, rfl, hs⟩
   ·
    simp only [hs, if_false] at h
    cases h
def AgreeR (b : Bs) (cl : List Cl) (CA : Option Addr) (cc : Nat) (UA : Option Addr) (uc : Nat) (RA : Option Addr) (rc : Nat) (rs : List Rc) (x : List Rc × Sr × Rc × Int × Int) (w : World) (e : Ending) (w' : World) : Prop :=
 ∃ v, e = .returned (.tuple #[v, .agg x.2.1.arr, .agg x.2.2.1.arr, .int .i64 x.2.2.2.1, .int .i64 x.2.2.2.2]) ∧ StR b cl CA cc UA uc RA rc rs x.1 w w' v
theorem ragree_walk (b : Bs) (rs : List Rc) (s : Sr) (sess door : Int) (yes : Bool) (cl : List Cl) (CA : Option Addr) (cc : Nat) (UA : Option Addr) (uc : Nat) (RA : Option Addr) (rc : Nat) (w : World) (hr : RecsAt w RA rc rs) (hm : rs.length ≤ 700000)
  (hn : 0 ≤ s.n ∧ s.n ≤ 1500000000) (ht : 0 ≤ s.now ∧ s.now ≤ 1000000000) :
  Calls Tryz.prog 68 #[.agg (stA b.nm b.key CA cl.length cc UA b.us.length uc RA rs.length rc), .agg s.arr, .int .i64 sess, .int .i64 door, .bool yes] w
   (AgreeR b cl CA cc UA uc RA rc rs (agreeP rs s sess door yes) w) := by
 have hF := Fr.start w (kp_start hr)
 have HR := Lib.hid hr
 have cb := Lib.hid (fun W h => rboth_walk b rs s.now sess door cl CA cc UA uc RA rc W h)
 have ck := Lib.hid (fun W h => S19.rtake_walk rs RA rc s.now 3 door W h)
 have cn := Lib.hid (fun W => rnonce_walk s W (by omega))
 have hlt := takeL_len rs s.now 3 door
 have HT := Lib.hid ht
 clear hr ht
 cases hbo : bothO rs s.now sess door with
 | none =>
  have hv : Hid (agreeP rs s sess door yes = (rs, s, Rc.none, 0, 10)) := by show _ = _; rw [agreeP, hbo]
  rw [hbo] at cb
  generalize (findO rs s.now 2 sess).getD Rc.none = ra at cb
  generalize (findO rs s.now 3 door).getD Rc.none = rd at cb
  clear hbo
  go_enter Tryz.func68, Tryz.ntmps68
  go_wp2_with (first
   | go_skip
   | (refine aA rfl rfl hF ?_; clear hF; intro gg ww hF; simp only [nf] at hF)
   | (refine aB rfl rfl hF rfl ?_; clear hF; intro gg ww hF; simp only [nf] at hF)
   | (refine iL (t := 3) hF rfl rfl fun ho hx hb => ?_; refine aC (v := .int _ _) ho hb hx hF rfl rfl ?_; clear ho hx hb)
   | (refine iL hF rfl rfl fun ho hx hb => ?_; (first | refine aL ho hb hx hF rfl rfl ?_ | refine aC (v := .slice _ _ _) ho hb hx hF rfl rfl ?_ | refine aC (v := .string _) ho hb hx hF rfl rfl ?_ | refine aC (v := .bool _) ho hb hx hF rfl rfl ?_); clear ho hx hb)
   | (refine iS hF rfl rfl fun ho hx hb => ?_; (first | refine aS ho hb hx hF rfl rfl rfl rfl ?_ | refine aT (v := .int _ _) ho hb hx hF rfl rfl rfl rfl ?_ | refine aT (v := .slice _ _ _) ho hb hx hF rfl rfl rfl rfl ?_ | refine aT (v := .bool _) ho hb hx hF rfl rfl rfl rfl ?_); clear ho hx hb hF; intro ww hF; simp only [nf] at hF)
   )
  refine (cb.out _ hF.data).mono ?_
  rintro _ w1 ⟨rfl, hbn⟩
  replace hF := hF.call hbn
  clear hbn
  go_wp2_with (first
   | go_skip
   | (refine aA rfl rfl hF ?_; clear hF; intro gg ww hF; simp only [nf] at hF)
   | (refine aB rfl rfl hF rfl ?_; clear hF; intro gg ww hF; simp only [nf] at hF)
   | (refine iL (t := 3) hF rfl rfl fun ho hx hb => ?_; refine aC (v := .int _ _) ho hb hx hF rfl rfl ?_; clear ho hx hb)
   | (refine iL hF rfl rfl fun ho hx hb => ?_; (first | refine aL ho hb hx hF rfl rfl ?_ | refine aC (v := .slice _ _ _) ho hb hx hF rfl rfl ?_ | refine aC (v := .string _) ho hb hx hF rfl rfl ?_ | refine aC (v := .bool _) ho hb hx hF rfl rfl ?_); clear ho hx hb)
   | (refine iS hF rfl rfl fun ho hx hb => ?_; (first | refine aS ho hb hx hF rfl rfl rfl rfl ?_ | refine aT (v := .int _ _) ho hb hx hF rfl rfl rfl rfl ?_ | refine aT (v := .slice _ _ _) ho hb hx hF rfl rfl rfl rfl ?_ | refine aT (v := .bool _) ho hb hx hF rfl rfl rfl rfl ?_); clear ho hx hb hF; intro ww hF; simp only [nf] at hF)
   )
  refine rgw [] [_, _] hF (.cons_cons _ (.cons_cons _ (.cons _ (.cons _ (.cons _ (.cons _ (.cons _ .slnil))))))) fun hF => ?_
  refine tkb 0 0 [] rfl rfl rfl rfl rfl ?_
  try simp only [nrm, Act.put]
  refine tkb 1 1 [] rfl rfl rfl rfl rfl ?_
  try simp only [nrm, Act.put]
  refine tkf 2 rfl ?_
  try simp only [nrm, Act.put]
  refine stw 3 2 hF rfl rfl rfl rfl rfl rfl rfl rfl ?_
  clear hF; intro ww hF; simp only [nf] at hF
  try simp only [nrm, Act.put]
  refine stw 4 3 hF rfl rfl rfl rfl rfl rfl rfl rfl ?_
  clear hF; intro ww hF; simp only [nf] at hF
  try simp only [nrm, Act.put]
  refine stw 5 4 hF rfl rfl rfl rfl rfl rfl rfl rfl ?_
  clear hF; intro ww hF; simp only [nf] at hF
  try simp only [nrm, Act.put]
  refine tkf 6 rfl ?_
  try simp only [nrm, Act.put]
  refine tkf 7 rfl ?_
  try simp only [nrm, Act.put]
  refine dnw ?_
  go_wp2_with (first
   | go_skip
   | (refine aA rfl rfl hF ?_; clear hF; intro gg ww hF; simp only [nf] at hF)
   | (refine aB rfl rfl hF rfl ?_; clear hF; intro gg ww hF; simp only [nf] at hF)
   | (refine iL (t := 3) hF rfl rfl fun ho hx hb => ?_; refine aC (v := .int _ _) ho hb hx hF rfl rfl ?_; clear ho hx hb)
   | (refine iL hF rfl rfl fun ho hx hb => ?_; (first | refine aL ho hb hx hF rfl rfl ?_ | refine aC (v := .slice _ _ _) ho hb hx hF rfl rfl ?_ | refine aC (v := .string _) ho hb hx hF rfl rfl ?_ | refine aC (v := .bool _) ho hb hx hF rfl rfl ?_); clear ho hx hb)
   | (refine iS hF rfl rfl fun ho hx hb => ?_; (first | refine aS ho hb hx hF rfl rfl rfl rfl ?_ | refine aT (v := .int _ _) ho hb hx hF rfl rfl rfl rfl ?_ | refine aT (v := .slice _ _ _) ho hb hx hF rfl rfl rfl rfl ?_ | refine aT (v := .bool _) ho hb hx hF rfl rfl rfl rfl ?_); clear ho hx hb hF; intro ww hF; simp only [nf] at hF)
   )
  refine bodyPost_ret (results5 Tryz.results68 (res_cell 2 hF rfl rfl rfl) (res_cell 3 hF rfl rfl rfl) (res_cell 4 hF rfl rfl rfl) (.tmp _) (.tmp _)) rfl ⟨_, by rw [hv.out]; rfl, ?_⟩
  rw [hv.out]
  exact StR.same (b := b) (cl := cl) HR.out hF.below
 | some x =>
  obtain ⟨a, d⟩ := x
  obtain ⟨f2, f3, hds⟩ := both_some hbo
  obtain ⟨a0, a1, a2, a3, a4, au, a6, a7, p1, p2, p3, p4, p5, p6, p7⟩ := a
  have HV : Hid (agreeP rs s sess door yes = if au = 0 then (rs, s, Rc.none, 0, 14)
   else if yes = false then (takeL rs s.now 3 door, s, d, 0, 15)
   else if drawB s = false ∨ roomI (takeL rs s.now 3 door) s.now 4 = 0 then (rs, s, Rc.none, 0, 16)
   else (putL (takeL rs s.now 3 door) s.now (recOf 4 s.n (untilI s.now 40) false d.client au d.sess s.n (wantOf d)), drawS s, d, s.n, 0)) := by
   show _ = _
   rw [agreeP, hbo]
  rw [hbo, f2, f3] at cb
  rw [f3] at ck
  generalize takeL rs s.now 3 door = l at ck hlt HV
  clear hbo f2 f3 hds
  rcases zero_or au with rfl | ⟨hu1, hu2⟩
  ·
   have hv : Hid (agreeP rs s sess door yes = (rs, s, Rc.none, 0, 14)) := by show _ = _; rw [HV.out, if_pos rfl]
   go_enter Tryz.func68, Tryz.ntmps68
   go_wp2_with (first
    | go_skip
    | (refine aA rfl rfl hF ?_; clear hF; intro gg ww hF; simp only [nf] at hF)
    | (refine aB rfl rfl hF rfl ?_; clear hF; intro gg ww hF; simp only [nf] at hF)
    | (refine iL (t := 3) hF rfl rfl fun ho hx hb => ?_; refine aC (v := .int _ _) ho hb hx hF rfl rfl ?_; clear ho hx hb)
    | (refine iL hF rfl rfl fun ho hx hb => ?_; (first | refine aL ho hb hx hF rfl rfl ?_ | refine aC (v := .slice _ _ _) ho hb hx hF rfl rfl ?_ | refine aC (v := .string _) ho hb hx hF rfl rfl ?_ | refine aC (v := .bool _) ho hb hx hF rfl rfl ?_); clear ho hx hb)
    | (refine iS hF rfl rfl fun ho hx hb => ?_; (first | refine aS ho hb hx hF rfl rfl rfl rfl ?_ | refine aT (v := .int _ _) ho hb hx hF rfl rfl rfl rfl ?_ | refine aT (v := .slice _ _ _) ho hb hx hF rfl rfl rfl rfl ?_ | refine aT (v := .bool _) ho hb hx hF rfl rfl rfl rfl ?_); clear ho hx hb hF; intro ww hF; simp only [nf] at hF)
    )
   refine (cb.out _ hF.data).mono ?_
   rintro _ w1 ⟨rfl, hbn⟩
   replace hF := hF.call hbn
   clear hbn
   go_wp2_with (first
    | go_skip
    | (refine aA rfl rfl hF ?_; clear hF; intro gg ww hF; simp only [nf] at hF)
    | (refine aB rfl rfl hF rfl ?_; clear hF; intro gg ww hF; simp only [nf] at hF)
    | (refine iL (t := 3) hF rfl rfl fun ho hx hb => ?_; refine aC (v := .int _ _) ho hb hx hF rfl rfl ?_; clear ho hx hb)
    | (refine iL hF rfl rfl fun ho hx hb => ?_; (first | refine aL ho hb hx hF rfl rfl ?_ | refine aC (v := .slice _ _ _) ho hb hx hF rfl rfl ?_ | refine aC (v := .string _) ho hb hx hF rfl rfl ?_ | refine aC (v := .bool _) ho hb hx hF rfl rfl ?_); clear ho hx hb)
    | (refine iS hF rfl rfl fun ho hx hb => ?_; (first | refine aS ho hb hx hF rfl rfl rfl rfl ?_ | refine aT (v := .int _ _) ho hb hx hF rfl rfl rfl rfl ?_ | refine aT (v := .slice _ _ _) ho hb hx hF rfl rfl rfl rfl ?_ | refine aT (v := .bool _) ho hb hx hF rfl rfl rfl rfl ?_); clear ho hx hb hF; intro ww hF; simp only [nf] at hF)
    )
   refine rgw [] [_, _] hF (.cons_cons _ (.cons_cons _ (.cons _ (.cons _ (.cons _ (.cons _ (.cons _ .slnil))))))) fun hF => ?_
   refine tkb 0 0 [] rfl rfl rfl rfl rfl ?_
   try simp only [nrm, Act.put]
   refine tkb 1 1 [] rfl rfl rfl rfl rfl ?_
   try simp only [nrm, Act.put]
   refine tkf 2 rfl ?_
   try simp only [nrm, Act.put]
   refine stw 3 2 hF rfl rfl rfl rfl rfl rfl rfl rfl ?_
   clear hF; intro ww hF; simp only [nf] at hF
   try simp only [nrm, Act.put]
   refine stw 4 3 hF rfl rfl rfl rfl rfl rfl rfl rfl ?_
   clear hF; intro ww hF; simp only [nf] at hF
   try simp only [nrm, Act.put]
   refine stw 5 4 hF rfl rfl rfl rfl rfl rfl rfl rfl ?_
   clear hF; intro ww hF; simp only [nf] at hF
   try simp only [nrm, Act.put]
   refine tkf 6 rfl ?_
   try simp only [nrm, Act.put]
   refine tkf 7 rfl ?_
   try simp only [nrm, Act.put]
   refine dnw ?_
   go_wp2_with (first
    | go_skip
    | (refine aA rfl rfl hF ?_; clear hF; intro gg ww hF; simp only [nf] at hF)
    | (refine aB rfl rfl hF rfl ?_; clear hF; intro gg ww hF; simp only [nf] at hF)
    | (refine iL (t := 3) hF rfl rfl fun ho hx hb => ?_; refine aC (v := .int _ _) ho hb hx hF rfl rfl ?_; clear ho hx hb)
    | (refine iL hF rfl rfl fun ho hx hb => ?_; (first | refine aL ho hb hx hF rfl rfl ?_ | refine aC (v := .slice _ _ _) ho hb hx hF rfl rfl ?_ | refine aC (v := .string _) ho hb hx hF rfl rfl ?_ | refine aC (v := .bool _) ho hb hx hF rfl rfl ?_); clear ho hx hb)
    | (refine iS hF rfl rfl fun ho hx hb => ?_; (first | refine aS ho hb hx hF rfl rfl rfl rfl ?_ | refine aT (v := .int _ _) ho hb hx hF rfl rfl rfl rfl ?_ | refine aT (v := .slice _ _ _) ho hb hx hF rfl rfl rfl rfl ?_ | refine aT (v := .bool _) ho hb hx hF rfl rfl rfl rfl ?_); clear ho hx hb hF; intro ww hF; simp only [nf] at hF)
    )
   refine bodyPost_ret (results5 Tryz.results68 (res_cell 2 hF rfl rfl rfl) (res_cell 3 hF rfl rfl rfl) (res_cell 4 hF rfl rfl rfl) (.tmp _) (.tmp _)) rfl ⟨_, by rw [hv.out]; rfl, ?_⟩
   rw [hv.out]
   exact StR.same (b := b) (cl := cl) HR.out hF.below
  ·
   cases yes with
   | false =>
    have hv : Hid (agreeP rs s sess door false = (l, s, d, 0, 15)) := by show _ = _; rw [HV.out, if_neg hu2, if_pos rfl]
    go_enter Tryz.func68, Tryz.ntmps68
    go_wp2_with (first
     | go_skip
     | (refine aA rfl rfl hF ?_; clear hF; intro gg ww hF; simp only [nf] at hF)
     | (refine aB rfl rfl hF rfl ?_; clear hF; intro gg ww hF; simp only [nf] at hF)
     | (refine iL (t := 3) hF rfl rfl fun ho hx hb => ?_; refine aC (v := .int _ _) ho hb hx hF rfl rfl ?_; clear ho hx hb)
     | (refine iL hF rfl rfl fun ho hx hb => ?_; (first | refine aL ho hb hx hF rfl rfl ?_ | refine aC (v := .slice _ _ _) ho hb hx hF rfl rfl ?_ | refine aC (v := .string _) ho hb hx hF rfl rfl ?_ | refine aC (v := .bool _) ho hb hx hF rfl rfl ?_); clear ho hx hb)
     | (refine iS hF rfl rfl fun ho hx hb => ?_; (first | refine aS ho hb hx hF rfl rfl rfl rfl ?_ | refine aT (v := .int _ _) ho hb hx hF rfl rfl rfl rfl ?_ | refine aT (v := .slice _ _ _) ho hb hx hF rfl rfl rfl rfl ?_ | refine aT (v := .bool _) ho hb hx hF rfl rfl rfl rfl ?_); clear ho hx hb hF; intro ww hF; simp only [nf] at hF)
     )
    refine (cb.out _ hF.data).mono ?_
    rintro _ w1 ⟨rfl, hbn⟩
    replace hF := hF.call hbn
    clear hbn
    go_wp2_with (first
     | go_skip
     | (refine aA rfl rfl hF ?_; clear hF; intro gg ww hF; simp only [nf] at hF)
     | (refine aB rfl rfl hF rfl ?_; clear hF; intro gg ww hF; simp only [nf] at hF)
     | (refine iL (t := 3) hF rfl rfl fun ho hx hb => ?_; refine aC (v := .int _ _) ho hb hx hF rfl rfl ?_; clear ho hx hb)
     | (refine iL hF rfl rfl fun ho hx hb => ?_; (first | refine aL ho hb hx hF rfl rfl ?_ | refine aC (v := .slice _ _ _) ho hb hx hF rfl rfl ?_ | refine aC (v := .string _) ho hb hx hF rfl rfl ?_ | refine aC (v := .bool _) ho hb hx hF rfl rfl ?_); clear ho hx hb)
     | (refine iS hF rfl rfl fun ho hx hb => ?_; (first | refine aS ho hb hx hF rfl rfl rfl rfl ?_ | refine aT (v := .int _ _) ho hb hx hF rfl rfl rfl rfl ?_ | refine aT (v := .slice _ _ _) ho hb hx hF rfl rfl rfl rfl ?_ | refine aT (v := .bool _) ho hb hx hF rfl rfl rfl rfl ?_); clear ho hx hb hF; intro ww hF; simp only [nf] at hF)
     )
    refine (ck.out _ hF.data).mono ?_
    rintro _ w2 ⟨A2, c2, rfl, hr2, hbn, hn2⟩
    have g2 := hF.below.size
    replace hF := hF.rows hbn hr2 hn2 (fun _ h => h)
    clear hbn hr2
    go_wp2_with (first
     | go_skip
     | (refine aA rfl rfl hF ?_; clear hF; intro gg ww hF; simp only [nf] at hF)
     | (refine aB rfl rfl hF rfl ?_; clear hF; intro gg ww hF; simp only [nf] at hF)
     | (refine iL (t := 3) hF rfl rfl fun ho hx hb => ?_; refine aC (v := .int _ _) ho hb hx hF rfl rfl ?_; clear ho hx hb)
     | (refine iL hF rfl rfl fun ho hx hb => ?_; (first | refine aL ho hb hx hF rfl rfl ?_ | refine aC (v := .slice _ _ _) ho hb hx hF rfl rfl ?_ | refine aC (v := .string _) ho hb hx hF rfl rfl ?_ | refine aC (v := .bool _) ho hb hx hF rfl rfl ?_); clear ho hx hb)
     | (refine iS hF rfl rfl fun ho hx hb => ?_; (first | refine aS ho hb hx hF rfl rfl rfl rfl ?_ | refine aT (v := .int _ _) ho hb hx hF rfl rfl rfl rfl ?_ | refine aT (v := .slice _ _ _) ho hb hx hF rfl rfl rfl rfl ?_ | refine aT (v := .bool _) ho hb hx hF rfl rfl rfl rfl ?_); clear ho hx hb hF; intro ww hF; simp only [nf] at hF)
     )
    refine rgw [] [_, _, _] hF (.cons_cons _ (.cons_cons _ (.cons _ (.cons _ (.cons _ (.cons _ (.cons_cons _ (.cons _ .slnil)))))))) fun hF => ?_
    refine tkb 0 0 [] rfl rfl rfl rfl rfl ?_
    try simp only [nrm, Act.put]
    refine tkb 1 1 [] rfl rfl rfl rfl rfl ?_
    try simp only [nrm, Act.put]
    refine tkb 2 2 [] rfl rfl rfl rfl rfl ?_
    try simp only [nrm, Act.put]
    refine stw 3 2 hF rfl rfl rfl rfl rfl rfl rfl rfl ?_
    clear hF; intro ww hF; simp only [nf] at hF
    try simp only [nrm, Act.put]
    refine stw 4 3 hF rfl rfl rfl rfl rfl rfl rfl rfl ?_
    clear hF; intro ww hF; simp only [nf] at hF
    try simp only [nrm, Act.put]
    refine stw 5 4 hF rfl rfl rfl rfl rfl rfl rfl rfl ?_
    clear hF; intro ww hF; simp only [nf] at hF
    try simp only [nrm, Act.put]
    refine tkf 6 rfl ?_
    try simp only [nrm, Act.put]
    refine tkf 7 rfl ?_
    try simp only [nrm, Act.put]
    refine dnw ?_
    go_wp2_with (first
     | go_skip
     | (refine aA rfl rfl hF ?_; clear hF; intro gg ww hF; simp only [nf] at hF)
     | (refine aB rfl rfl hF rfl ?_; clear hF; intro gg ww hF; simp only [nf] at hF)
     | (refine iL (t := 3) hF rfl rfl fun ho hx hb => ?_; refine aC (v := .int _ _) ho hb hx hF rfl rfl ?_; clear ho hx hb)
     | (refine iL hF rfl rfl fun ho hx hb => ?_; (first | refine aL ho hb hx hF rfl rfl ?_ | refine aC (v := .slice _ _ _) ho hb hx hF rfl rfl ?_ | refine aC (v := .string _) ho hb hx hF rfl rfl ?_ | refine aC (v := .bool _) ho hb hx hF rfl rfl ?_); clear ho hx hb)
     | (refine iS hF rfl rfl fun ho hx hb => ?_; (first | refine aS ho hb hx hF rfl rfl rfl rfl ?_ | refine aT (v := .int _ _) ho hb hx hF rfl rfl rfl rfl ?_ | refine aT (v := .slice _ _ _) ho hb hx hF rfl rfl rfl rfl ?_ | refine aT (v := .bool _) ho hb hx hF rfl rfl rfl rfl ?_); clear ho hx hb hF; intro ww hF; simp only [nf] at hF)
     )
    refine bodyPost_ret (results5 Tryz.results68 (res_cell 2 hF rfl rfl rfl) (res_cell 3 hF rfl rfl rfl) (res_cell 4 hF rfl rfl rfl) (.tmp _) (.tmp _)) rfl ⟨_, by rw [hv.out]; rfl, ?_⟩
    rw [hv.out]
    exact ⟨A2, c2, rfl, hF.data.2, NewRow.up g2 hn2, hF.below⟩
   | true =>
    have cr := Lib.hid (fun W A c h => rroom_walk l A c s.now 4 W h)
    by_cases hbad : drawB s = false ∨ roomI l s.now 4 = 0
    ·
     have hv : Hid (agreeP rs s sess door true = (rs, s, Rc.none, 0, 16)) := by show _ = _; rw [HV.out, if_neg hu2, if_neg (by decide), if_pos hbad]
     have hcase : drawB s = false ∨ (drawB s = true ∧ roomI l s.now 4 = 0) := by
      cases h1 : drawB s
      ·
       exact .inl rfl
      ·
       refine .inr ⟨rfl, ?_⟩
       rcases hbad with h | h
       ·
        rw [h1] at h; cases h
       ·
        exact h
     clear hbad HV hu2
     rcases hcase with h1 | ⟨h1, h2⟩
     ·
      rw [h1] at cn
      clear h1
      go_enter Tryz.func68, Tryz.ntmps68
      go_wp2_with (first
       | go_skip
       | (refine aA rfl rfl hF ?_; clear hF; intro gg ww hF; simp only [nf] at hF)
       | (refine aB rfl rfl hF rfl ?_; clear hF; intro gg ww hF; simp only [nf] at hF)
       | (refine iL (t := 3) hF rfl rfl fun ho hx hb => ?_; refine aC (v := .int _ _) ho hb hx hF rfl rfl ?_; clear ho hx hb)
       | (refine iL hF rfl rfl fun ho hx hb => ?_; (first | refine aL ho hb hx hF rfl rfl ?_ | refine aC (v := .slice _ _ _) ho hb hx hF rfl rfl ?_ | refine aC (v := .string _) ho hb hx hF rfl rfl ?_ | refine aC (v := .bool _) ho hb hx hF rfl rfl ?_); clear ho hx hb)
       | (refine iS hF rfl rfl fun ho hx hb => ?_; (first | refine aS ho hb hx hF rfl rfl rfl rfl ?_ | refine aT (v := .int _ _) ho hb hx hF rfl rfl rfl rfl ?_ | refine aT (v := .slice _ _ _) ho hb hx hF rfl rfl rfl rfl ?_ | refine aT (v := .bool _) ho hb hx hF rfl rfl rfl rfl ?_); clear ho hx hb hF; intro ww hF; simp only [nf] at hF)
       )
      refine (cb.out _ hF.data).mono ?_
      rintro _ w1 ⟨rfl, hbn⟩
      replace hF := hF.call hbn
      clear hbn
      go_wp2_with (first
       | go_skip
       | (refine aA rfl rfl hF ?_; clear hF; intro gg ww hF; simp only [nf] at hF)
       | (refine aB rfl rfl hF rfl ?_; clear hF; intro gg ww hF; simp only [nf] at hF)
       | (refine iL (t := 3) hF rfl rfl fun ho hx hb => ?_; refine aC (v := .int _ _) ho hb hx hF rfl rfl ?_; clear ho hx hb)
       | (refine iL hF rfl rfl fun ho hx hb => ?_; (first | refine aL ho hb hx hF rfl rfl ?_ | refine aC (v := .slice _ _ _) ho hb hx hF rfl rfl ?_ | refine aC (v := .string _) ho hb hx hF rfl rfl ?_ | refine aC (v := .bool _) ho hb hx hF rfl rfl ?_); clear ho hx hb)
       | (refine iS hF rfl rfl fun ho hx hb => ?_; (first | refine aS ho hb hx hF rfl rfl rfl rfl ?_ | refine aT (v := .int _ _) ho hb hx hF rfl rfl rfl rfl ?_ | refine aT (v := .slice _ _ _) ho hb hx hF rfl rfl rfl rfl ?_ | refine aT (v := .bool _) ho hb hx hF rfl rfl rfl rfl ?_); clear ho hx hb hF; intro ww hF; simp only [nf] at hF)
       )
      refine (ck.out _ hF.data).mono ?_
      rintro _ w2 ⟨A2, c2, rfl, hr2, hbn, hn2⟩
      have g2 := hF.below.size
      replace hF := hF.rows hbn hr2 hn2 (fun _ h => h)
      clear hbn hr2
      go_wp2_with (first
       | go_skip
       | (refine aA rfl rfl hF ?_; clear hF; intro gg ww hF; simp only [nf] at hF)
       | (refine aB rfl rfl hF rfl ?_; clear hF; intro gg ww hF; simp only [nf] at hF)
       | (refine iL (t := 3) hF rfl rfl fun ho hx hb => ?_; refine aC (v := .int _ _) ho hb hx hF rfl rfl ?_; clear ho hx hb)
       | (refine iL hF rfl rfl fun ho hx hb => ?_; (first | refine aL ho hb hx hF rfl rfl ?_ | refine aC (v := .slice _ _ _) ho hb hx hF rfl rfl ?_ | refine aC (v := .string _) ho hb hx hF rfl rfl ?_ | refine aC (v := .bool _) ho hb hx hF rfl rfl ?_); clear ho hx hb)
       | (refine iS hF rfl rfl fun ho hx hb => ?_; (first | refine aS ho hb hx hF rfl rfl rfl rfl ?_ | refine aT (v := .int _ _) ho hb hx hF rfl rfl rfl rfl ?_ | refine aT (v := .slice _ _ _) ho hb hx hF rfl rfl rfl rfl ?_ | refine aT (v := .bool _) ho hb hx hF rfl rfl rfl rfl ?_); clear ho hx hb hF; intro ww hF; simp only [nf] at hF)
       )
      refine (cn.out _).mono ?_
      rintro _ w3 ⟨rfl, hbn⟩
      replace hF := hF.call hbn
      clear hbn
      go_wp2_with (first
       | go_skip
       | (refine aA rfl rfl hF ?_; clear hF; intro gg ww hF; simp only [nf] at hF)
       | (refine aB rfl rfl hF rfl ?_; clear hF; intro gg ww hF; simp only [nf] at hF)
       | (refine iL (t := 3) hF rfl rfl fun ho hx hb => ?_; refine aC (v := .int _ _) ho hb hx hF rfl rfl ?_; clear ho hx hb)
       | (refine iL hF rfl rfl fun ho hx hb => ?_; (first | refine aL ho hb hx hF rfl rfl ?_ | refine aC (v := .slice _ _ _) ho hb hx hF rfl rfl ?_ | refine aC (v := .string _) ho hb hx hF rfl rfl ?_ | refine aC (v := .bool _) ho hb hx hF rfl rfl ?_); clear ho hx hb)
       | (refine iS hF rfl rfl fun ho hx hb => ?_; (first | refine aS ho hb hx hF rfl rfl rfl rfl ?_ | refine aT (v := .int _ _) ho hb hx hF rfl rfl rfl rfl ?_ | refine aT (v := .slice _ _ _) ho hb hx hF rfl rfl rfl rfl ?_ | refine aT (v := .bool _) ho hb hx hF rfl rfl rfl rfl ?_); clear ho hx hb hF; intro ww hF; simp only [nf] at hF)
       )
      refine rgw [] [_, _] hF (.cons_cons _ (.cons_cons _ (.cons _ (.cons _ (.cons _ (.cons _ (.cons _ (.cons _ (.cons _ .slnil))))))))) fun hF => ?_
      refine tkb 0 0 [] rfl rfl rfl rfl rfl ?_
      try simp only [nrm, Act.put]
      refine tkb 1 1 [] rfl rfl rfl rfl rfl ?_
      try simp only [nrm, Act.put]
      refine tkf 2 rfl ?_
      try simp only [nrm, Act.put]
      refine stw 3 2 hF rfl rfl rfl rfl rfl rfl rfl rfl ?_
      clear hF; intro ww hF; simp only [nf] at hF
      try simp only [nrm, Act.put]
      refine stw 4 3 hF rfl rfl rfl rfl rfl rfl rfl rfl ?_
      clear hF; intro ww hF; simp only [nf] at hF
      try simp only [nrm, Act.put]
      refine stw 5 4 hF rfl rfl rfl rfl rfl rfl rfl rfl ?_
      clear hF; intro ww hF; simp only [nf] at hF
      try simp only [nrm, Act.put]
      refine tkf 6 rfl ?_
      try simp only [nrm, Act.put]
      refine tkf 7 rfl ?_
      try simp only [nrm, Act.put]
      refine dnw ?_
      go_wp2_with (first
       | go_skip
       | (refine aA rfl rfl hF ?_; clear hF; intro gg ww hF; simp only [nf] at hF)
       | (refine aB rfl rfl hF rfl ?_; clear hF; intro gg ww hF; simp only [nf] at hF)
       | (refine iL (t := 3) hF rfl rfl fun ho hx hb => ?_; refine aC (v := .int _ _) ho hb hx hF rfl rfl ?_; clear ho hx hb)
       | (refine iL hF rfl rfl fun ho hx hb => ?_; (first | refine aL ho hb hx hF rfl rfl ?_ | refine aC (v := .slice _ _ _) ho hb hx hF rfl rfl ?_ | refine aC (v := .string _) ho hb hx hF rfl rfl ?_ | refine aC (v := .bool _) ho hb hx hF rfl rfl ?_); clear ho hx hb)
       | (refine iS hF rfl rfl fun ho hx hb => ?_; (first | refine aS ho hb hx hF rfl rfl rfl rfl ?_ | refine aT (v := .int _ _) ho hb hx hF rfl rfl rfl rfl ?_ | refine aT (v := .slice _ _ _) ho hb hx hF rfl rfl rfl rfl ?_ | refine aT (v := .bool _) ho hb hx hF rfl rfl rfl rfl ?_); clear ho hx hb hF; intro ww hF; simp only [nf] at hF)
       )
      refine bodyPost_ret (results5 Tryz.results68 (res_cell 2 hF rfl rfl rfl) (res_cell 3 hF rfl rfl rfl) (res_cell 4 hF rfl rfl rfl) (.tmp _) (.tmp _)) rfl ⟨_, by rw [hv.out]; rfl, ?_⟩
      rw [hv.out]
      exact StR.same (b := b) (cl := cl) HR.out hF.below
     ·
      rw [h1] at cn
      rw [h2] at cr
      clear h1 h2
      go_enter Tryz.func68, Tryz.ntmps68
      go_wp2_with (first
       | go_skip
       | (refine aA rfl rfl hF ?_; clear hF; intro gg ww hF; simp only [nf] at hF)
       | (refine aB rfl rfl hF rfl ?_; clear hF; intro gg ww hF; simp only [nf] at hF)
       | (refine iL (t := 3) hF rfl rfl fun ho hx hb => ?_; refine aC (v := .int _ _) ho hb hx hF rfl rfl ?_; clear ho hx hb)
       | (refine iL hF rfl rfl fun ho hx hb => ?_; (first | refine aL ho hb hx hF rfl rfl ?_ | refine aC (v := .slice _ _ _) ho hb hx hF rfl rfl ?_ | refine aC (v := .string _) ho hb hx hF rfl rfl ?_ | refine aC (v := .bool _) ho hb hx hF rfl rfl ?_); clear ho hx hb)
       | (refine iS hF rfl rfl fun ho hx hb => ?_; (first | refine aS ho hb hx hF rfl rfl rfl rfl ?_ | refine aT (v := .int _ _) ho hb hx hF rfl rfl rfl rfl ?_ | refine aT (v := .slice _ _ _) ho hb hx hF rfl rfl rfl rfl ?_ | refine aT (v := .bool _) ho hb hx hF rfl rfl rfl rfl ?_); clear ho hx hb hF; intro ww hF; simp only [nf] at hF)
       )
      refine (cb.out _ hF.data).mono ?_
      rintro _ w1 ⟨rfl, hbn⟩
      replace hF := hF.call hbn
      clear hbn
      go_wp2_with (first
       | go_skip
       | (refine aA rfl rfl hF ?_; clear hF; intro gg ww hF; simp only [nf] at hF)
       | (refine aB rfl rfl hF rfl ?_; clear hF; intro gg ww hF; simp only [nf] at hF)
       | (refine iL (t := 3) hF rfl rfl fun ho hx hb => ?_; refine aC (v := .int _ _) ho hb hx hF rfl rfl ?_; clear ho hx hb)
       | (refine iL hF rfl rfl fun ho hx hb => ?_; (first | refine aL ho hb hx hF rfl rfl ?_ | refine aC (v := .slice _ _ _) ho hb hx hF rfl rfl ?_ | refine aC (v := .string _) ho hb hx hF rfl rfl ?_ | refine aC (v := .bool _) ho hb hx hF rfl rfl ?_); clear ho hx hb)
       | (refine iS hF rfl rfl fun ho hx hb => ?_; (first | refine aS ho hb hx hF rfl rfl rfl rfl ?_ | refine aT (v := .int _ _) ho hb hx hF rfl rfl rfl rfl ?_ | refine aT (v := .slice _ _ _) ho hb hx hF rfl rfl rfl rfl ?_ | refine aT (v := .bool _) ho hb hx hF rfl rfl rfl rfl ?_); clear ho hx hb hF; intro ww hF; simp only [nf] at hF)
       )
      refine (ck.out _ hF.data).mono ?_
      rintro _ w2 ⟨A2, c2, rfl, hr2, hbn, hn2⟩
      have g2 := hF.below.size
      replace hF := hF.rows hbn hr2 hn2 (fun _ h => h)
      clear hbn hr2
      go_wp2_with (first
       | go_skip
       | (refine aA rfl rfl hF ?_; clear hF; intro gg ww hF; simp only [nf] at hF)
       | (refine aB rfl rfl hF rfl ?_; clear hF; intro gg ww hF; simp only [nf] at hF)
       | (refine iL (t := 3) hF rfl rfl fun ho hx hb => ?_; refine aC (v := .int _ _) ho hb hx hF rfl rfl ?_; clear ho hx hb)
       | (refine iL hF rfl rfl fun ho hx hb => ?_; (first | refine aL ho hb hx hF rfl rfl ?_ | refine aC (v := .slice _ _ _) ho hb hx hF rfl rfl ?_ | refine aC (v := .string _) ho hb hx hF rfl rfl ?_ | refine aC (v := .bool _) ho hb hx hF rfl rfl ?_); clear ho hx hb)
       | (refine iS hF rfl rfl fun ho hx hb => ?_; (first | refine aS ho hb hx hF rfl rfl rfl rfl ?_ | refine aT (v := .int _ _) ho hb hx hF rfl rfl rfl rfl ?_ | refine aT (v := .slice _ _ _) ho hb hx hF rfl rfl rfl rfl ?_ | refine aT (v := .bool _) ho hb hx hF rfl rfl rfl rfl ?_); clear ho hx hb hF; intro ww hF; simp only [nf] at hF)
       )
      refine (cn.out _).mono ?_
      rintro _ w3 ⟨rfl, hbn⟩
      replace hF := hF.call hbn
      clear hbn
      go_wp2_with (first
       | go_skip
       | (refine aA rfl rfl hF ?_; clear hF; intro gg ww hF; simp only [nf] at hF)
       | (refine aB rfl rfl hF rfl ?_; clear hF; intro gg ww hF; simp only [nf] at hF)
       | (refine iL (t := 3) hF rfl rfl fun ho hx hb => ?_; refine aC (v := .int _ _) ho hb hx hF rfl rfl ?_; clear ho hx hb)
       | (refine iL hF rfl rfl fun ho hx hb => ?_; (first | refine aL ho hb hx hF rfl rfl ?_ | refine aC (v := .slice _ _ _) ho hb hx hF rfl rfl ?_ | refine aC (v := .string _) ho hb hx hF rfl rfl ?_ | refine aC (v := .bool _) ho hb hx hF rfl rfl ?_); clear ho hx hb)
       | (refine iS hF rfl rfl fun ho hx hb => ?_; (first | refine aS ho hb hx hF rfl rfl rfl rfl ?_ | refine aT (v := .int _ _) ho hb hx hF rfl rfl rfl rfl ?_ | refine aT (v := .slice _ _ _) ho hb hx hF rfl rfl rfl rfl ?_ | refine aT (v := .bool _) ho hb hx hF rfl rfl rfl rfl ?_); clear ho hx hb hF; intro ww hF; simp only [nf] at hF)
       )
      refine (cr.out _ A2 c2 hF.data.2).mono ?_
      rintro _ w4 ⟨rfl, hbn⟩
      replace hF := hF.call hbn
      clear hbn
      go_wp2_with (first
       | go_skip
       | (refine aA rfl rfl hF ?_; clear hF; intro gg ww hF; simp only [nf] at hF)
       | (refine aB rfl rfl hF rfl ?_; clear hF; intro gg ww hF; simp only [nf] at hF)
       | (refine iL (t := 3) hF rfl rfl fun ho hx hb => ?_; refine aC (v := .int _ _) ho hb hx hF rfl rfl ?_; clear ho hx hb)
       | (refine iL hF rfl rfl fun ho hx hb => ?_; (first | refine aL ho hb hx hF rfl rfl ?_ | refine aC (v := .slice _ _ _) ho hb hx hF rfl rfl ?_ | refine aC (v := .string _) ho hb hx hF rfl rfl ?_ | refine aC (v := .bool _) ho hb hx hF rfl rfl ?_); clear ho hx hb)
       | (refine iS hF rfl rfl fun ho hx hb => ?_; (first | refine aS ho hb hx hF rfl rfl rfl rfl ?_ | refine aT (v := .int _ _) ho hb hx hF rfl rfl rfl rfl ?_ | refine aT (v := .slice _ _ _) ho hb hx hF rfl rfl rfl rfl ?_ | refine aT (v := .bool _) ho hb hx hF rfl rfl rfl rfl ?_); clear ho hx hb hF; intro ww hF; simp only [nf] at hF)
       )
      refine rgw [] [_, _] hF (.cons_cons _ (.cons_cons _ (.cons _ (.cons _ (.cons _ (.cons _ (.cons _ (.cons _ (.cons _ .slnil))))))))) fun hF => ?_
      refine tkb 0 0 [] rfl rfl rfl rfl rfl ?_
      try simp only [nrm, Act.put]
      refine tkb 1 1 [] rfl rfl rfl rfl rfl ?_
      try simp only [nrm, Act.put]
      refine tkf 2 rfl ?_
      try simp only [nrm, Act.put]
      refine stw 3 2 hF rfl rfl rfl rfl rfl rfl rfl rfl ?_
      clear hF; intro ww hF; simp only [nf] at hF
      try simp only [nrm, Act.put]
      refine stw 4 3 hF rfl rfl rfl rfl rfl rfl rfl rfl ?_
      clear hF; intro ww hF; simp only [nf] at hF
      try simp only [nrm, Act.put]
      refine stw 5 4 hF rfl rfl rfl rfl rfl rfl rfl rfl ?_
      clear hF; intro ww hF; simp only [nf] at hF
      try simp only [nrm, Act.put]
      refine tkf 6 rfl ?_
      try simp only [nrm, Act.put]
      refine tkf 7 rfl ?_
      try simp only [nrm, Act.put]
      refine dnw ?_
      go_wp2_with (first
       | go_skip
       | (refine aA rfl rfl hF ?_; clear hF; intro gg ww hF; simp only [nf] at hF)
       | (refine aB rfl rfl hF rfl ?_; clear hF; intro gg ww hF; simp only [nf] at hF)
       | (refine iL (t := 3) hF rfl rfl fun ho hx hb => ?_; refine aC (v := .int _ _) ho hb hx hF rfl rfl ?_; clear ho hx hb)
       | (refine iL hF rfl rfl fun ho hx hb => ?_; (first | refine aL ho hb hx hF rfl rfl ?_ | refine aC (v := .slice _ _ _) ho hb hx hF rfl rfl ?_ | refine aC (v := .string _) ho hb hx hF rfl rfl ?_ | refine aC (v := .bool _) ho hb hx hF rfl rfl ?_); clear ho hx hb)
       | (refine iS hF rfl rfl fun ho hx hb => ?_; (first | refine aS ho hb hx hF rfl rfl rfl rfl ?_ | refine aT (v := .int _ _) ho hb hx hF rfl rfl rfl rfl ?_ | refine aT (v := .slice _ _ _) ho hb hx hF rfl rfl rfl rfl ?_ | refine aT (v := .bool _) ho hb hx hF rfl rfl rfl rfl ?_); clear ho hx hb hF; intro ww hF; simp only [nf] at hF)
       )
      refine bodyPost_ret (results5 Tryz.results68 (res_cell 2 hF rfl rfl rfl) (res_cell 3 hF rfl rfl rfl) (res_cell 4 hF rfl rfl rfl) (.tmp _) (.tmp _)) rfl ⟨_, by rw [hv.out]; rfl, ?_⟩
      rw [hv.out]
      exact StR.same (b := b) (cl := cl) HR.out hF.below
    ·
     have hv : Hid (agreeP rs s sess door true = (putL l s.now (recOf 4 s.n (untilI s.now 40) false d.client au d.sess s.n (wantOf d)), drawS s, d, s.n, 0)) := by show _ = _; rw [HV.out, if_neg hu2, if_neg (by decide), if_neg hbad]
     have h1 : drawB s = true := by cases h : drawB s; exact absurd (.inl h) hbad; rfl
     have h2 : (roomI l s.now 4 == 0) = false := by rw [beq_eq_false_iff_ne]; exact fun h => hbad (.inr h)
     obtain ⟨d1, k1, _⟩ := drew_on h1
     rw [h1, k1] at cn
     have cp := Lib.hid (fun W A c h => rput_walk l A c s.now (recOf 4 s.n (untilI s.now 40) false d.client au d.sess s.n (wantOf d)) W h (by omega))
     generalize putL l s.now (recOf 4 s.n (untilI s.now 40) false d.client au d.sess s.n (wantOf d)) = L1 at cp hv
     generalize putC l s.now (recOf 4 s.n (untilI s.now 40) false d.client au d.sess s.n (wantOf d)) = e1 at cp
     rw [show (recOf 4 s.n (untilI s.now 40) false d.client au d.sess s.n (wantOf d)).arr = #[.int .i64 4, .int .i64 s.n, .int .i64 (untilI s.now 40), .bool false, .int .i64 d.client, .int .i64 au, .int .i64 d.sess, .int .i64 s.n, .string d.s1, .string d.s2, .string d.s3, .string d.s4, .string d.s5, .string d.s6, .string d.s7] from rfl] at cp
     have cl4 := Lib.hid (fun W => rlife_walk 4 W)
     have cu4 := Lib.hid (fun W => runtil_walk s.now (lifeI 4) W HT.out.1 (by have := HT.out.2; omega) (by decide))
     rw [show lifeI 4 = 40 from rfl] at cl4 cu4
     clear hbad h1 k1 d1 HV hu2
     go_enter Tryz.func68, Tryz.ntmps68
     go_wp2_with (first
      | go_skip
      | (refine aA rfl rfl hF ?_; clear hF; intro gg ww hF; simp only [nf] at hF)
      | (refine aB rfl rfl hF rfl ?_; clear hF; intro gg ww hF; simp only [nf] at hF)
      | (refine iL (t := 3) hF rfl rfl fun ho hx hb => ?_; refine aC (v := .int _ _) ho hb hx hF rfl rfl ?_; clear ho hx hb)
      | (refine iL hF rfl rfl fun ho hx hb => ?_; (first | refine aL ho hb hx hF rfl rfl ?_ | refine aC (v := .slice _ _ _) ho hb hx hF rfl rfl ?_ | refine aC (v := .string _) ho hb hx hF rfl rfl ?_ | refine aC (v := .bool _) ho hb hx hF rfl rfl ?_); clear ho hx hb)
      | (refine iS hF rfl rfl fun ho hx hb => ?_; (first | refine aS ho hb hx hF rfl rfl rfl rfl ?_ | refine aT (v := .int _ _) ho hb hx hF rfl rfl rfl rfl ?_ | refine aT (v := .slice _ _ _) ho hb hx hF rfl rfl rfl rfl ?_ | refine aT (v := .bool _) ho hb hx hF rfl rfl rfl rfl ?_); clear ho hx hb hF; intro ww hF; simp only [nf] at hF)
      )
     refine (cb.out _ hF.data).mono ?_
     rintro _ w1 ⟨rfl, hbn⟩
     replace hF := hF.call hbn
     clear hbn
     go_wp2_with (first
      | go_skip
      | (refine aA rfl rfl hF ?_; clear hF; intro gg ww hF; simp only [nf] at hF)
      | (refine aB rfl rfl hF rfl ?_; clear hF; intro gg ww hF; simp only [nf] at hF)
      | (refine iL (t := 3) hF rfl rfl fun ho hx hb => ?_; refine aC (v := .int _ _) ho hb hx hF rfl rfl ?_; clear ho hx hb)
      | (refine iL hF rfl rfl fun ho hx hb => ?_; (first | refine aL ho hb hx hF rfl rfl ?_ | refine aC (v := .slice _ _ _) ho hb hx hF rfl rfl ?_ | refine aC (v := .string _) ho hb hx hF rfl rfl ?_ | refine aC (v := .bool _) ho hb hx hF rfl rfl ?_); clear ho hx hb)
      | (refine iS hF rfl rfl fun ho hx hb => ?_; (first | refine aS ho hb hx hF rfl rfl rfl rfl ?_ | refine aT (v := .int _ _) ho hb hx hF rfl rfl rfl rfl ?_ | refine aT (v := .slice _ _ _) ho hb hx hF rfl rfl rfl rfl ?_ | refine aT (v := .bool _) ho hb hx hF rfl rfl rfl rfl ?_); clear ho hx hb hF; intro ww hF; simp only [nf] at hF)
      )
     refine (ck.out _ hF.data).mono ?_
     rintro _ w2 ⟨A2, c2, rfl, hr2, hbn, hn2⟩
     have g2 := hF.below.size
     replace hF := hF.rows hbn hr2 hn2 (fun _ h => h)
     clear hbn hr2
     go_wp2_with (first
      | go_skip
      | (refine aA rfl rfl hF ?_; clear hF; intro gg ww hF; simp only [nf] at hF)
      | (refine aB rfl rfl hF rfl ?_; clear hF; intro gg ww hF; simp only [nf] at hF)
      | (refine iL (t := 3) hF rfl rfl fun ho hx hb => ?_; refine aC (v := .int _ _) ho hb hx hF rfl rfl ?_; clear ho hx hb)
      | (refine iL hF rfl rfl fun ho hx hb => ?_; (first | refine aL ho hb hx hF rfl rfl ?_ | refine aC (v := .slice _ _ _) ho hb hx hF rfl rfl ?_ | refine aC (v := .string _) ho hb hx hF rfl rfl ?_ | refine aC (v := .bool _) ho hb hx hF rfl rfl ?_); clear ho hx hb)
      | (refine iS hF rfl rfl fun ho hx hb => ?_; (first | refine aS ho hb hx hF rfl rfl rfl rfl ?_ | refine aT (v := .int _ _) ho hb hx hF rfl rfl rfl rfl ?_ | refine aT (v := .slice _ _ _) ho hb hx hF rfl rfl rfl rfl ?_ | refine aT (v := .bool _) ho hb hx hF rfl rfl rfl rfl ?_); clear ho hx hb hF; intro ww hF; simp only [nf] at hF)
      )
     refine (cn.out _).mono ?_
     rintro _ w3 ⟨rfl, hbn⟩
     replace hF := hF.call hbn
     clear hbn
     go_wp2_with (first
      | go_skip
      | (refine aA rfl rfl hF ?_; clear hF; intro gg ww hF; simp only [nf] at hF)
      | (refine aB rfl rfl hF rfl ?_; clear hF; intro gg ww hF; simp only [nf] at hF)
      | (refine iL (t := 3) hF rfl rfl fun ho hx hb => ?_; refine aC (v := .int _ _) ho hb hx hF rfl rfl ?_; clear ho hx hb)
      | (refine iL hF rfl rfl fun ho hx hb => ?_; (first | refine aL ho hb hx hF rfl rfl ?_ | refine aC (v := .slice _ _ _) ho hb hx hF rfl rfl ?_ | refine aC (v := .string _) ho hb hx hF rfl rfl ?_ | refine aC (v := .bool _) ho hb hx hF rfl rfl ?_); clear ho hx hb)
      | (refine iS hF rfl rfl fun ho hx hb => ?_; (first | refine aS ho hb hx hF rfl rfl rfl rfl ?_ | refine aT (v := .int _ _) ho hb hx hF rfl rfl rfl rfl ?_ | refine aT (v := .slice _ _ _) ho hb hx hF rfl rfl rfl rfl ?_ | refine aT (v := .bool _) ho hb hx hF rfl rfl rfl rfl ?_); clear ho hx hb hF; intro ww hF; simp only [nf] at hF)
      )
     refine (cr.out _ A2 c2 hF.data.2).mono ?_
     rintro _ w4 ⟨rfl, hbn⟩
     replace hF := hF.call hbn
     clear hbn
     go_wp2_with (first
      | go_skip
      | (refine aA rfl rfl hF ?_; clear hF; intro gg ww hF; simp only [nf] at hF)
      | (refine aB rfl rfl hF rfl ?_; clear hF; intro gg ww hF; simp only [nf] at hF)
      | (refine iL (t := 3) hF rfl rfl fun ho hx hb => ?_; refine aC (v := .int _ _) ho hb hx hF rfl rfl ?_; clear ho hx hb)
      | (refine iL hF rfl rfl fun ho hx hb => ?_; (first | refine aL ho hb hx hF rfl rfl ?_ | refine aC (v := .slice _ _ _) ho hb hx hF rfl rfl ?_ | refine aC (v := .string _) ho hb hx hF rfl rfl ?_ | refine aC (v := .bool _) ho hb hx hF rfl rfl ?_); clear ho hx hb)
      | (refine iS hF rfl rfl fun ho hx hb => ?_; (first | refine aS ho hb hx hF rfl rfl rfl rfl ?_ | refine aT (v := .int _ _) ho hb hx hF rfl rfl rfl rfl ?_ | refine aT (v := .slice _ _ _) ho hb hx hF rfl rfl rfl rfl ?_ | refine aT (v := .bool _) ho hb hx hF rfl rfl rfl rfl ?_); clear ho hx hb hF; intro ww hF; simp only [nf] at hF)
      )
     refine rgw [] [_, _, _] hF (.cons _ (.cons_cons _ (.cons _ (.cons _ (.cons _ (.cons_cons _ (.cons_cons _ (.cons _ (.cons _ .slnil))))))))) fun hF => ?_
     refine tkf 0 rfl ?_
     try simp only [nrm, Act.put]
     refine tkf 1 rfl ?_
     try simp only [nrm, Act.put]
     refine tkc 2 0 [] (v := .int _ _) rfl rfl rfl rfl rfl ?_
     try simp only [nrm, Act.put]
     refine tkf 3 rfl ?_
     try simp only [nrm, Act.put]
     refine tkf 4 rfl ?_
     try simp only [nrm, Act.put]
     refine tkc 5 0 [] (v := .int _ _) rfl rfl rfl rfl rfl ?_
     try simp only [nrm, Act.put]
     refine tkf 8 rfl ?_
     try simp only [nrm, Act.put]
     refine tkc 9 2 [] (v := .int _ _) rfl rfl rfl rfl rfl ?_
     try simp only [nrm, Act.put]
     refine tkf 10 rfl ?_
     try simp only [nrm, Act.put]
     refine tkc 11 1 [] (v := .int _ _) rfl rfl rfl rfl rfl ?_
     try simp only [nrm, Act.put]
     refine tkf 12 rfl ?_
     try simp only [nrm, Act.put]
     refine tkc 13 2 [] (v := .int _ _) rfl rfl rfl rfl rfl ?_
     try simp only [nrm, Act.put]
     refine tkf 14 rfl ?_
     try simp only [nrm, Act.put]
     refine tkf 15 rfl ?_
     try simp only [nrm, Act.put]
     refine tkp 16 2 [] (wantOf d).cells rfl rfl rfl rfl (want_part d) rfl ?_
     try simp only [nrm, Act.put]
     refine rdw 6 rfl fun K hK => ?_
     go_simp
     go_at_call 87
     with_reducible refine (cl4.out _).mono ?_
     rintro _ ww ⟨rfl, hbn⟩
     replace hF := hF.call hbn
     refine hK.out _ _ (by (first | exact HoldA.past rfl | exact HoldA.of (by assumption) _ | exact HoldA.of (Fr.sub hF (by repeat (first | exact List.Sublist.slnil | apply List.Sublist.cons_cons | apply List.Sublist.cons))) _)) (fun _ => ?_)
     clear hK K; try clear hbn
     try simp only [nrm, Act.put]
     refine rdw 7 rfl fun K hK => ?_
     go_simp
     go_at_call 52
     with_reducible refine (cu4.out _).mono ?_
     rintro _ ww ⟨rfl, rfl⟩
     skip
     refine hK.out _ _ (by (first | exact HoldA.past rfl | exact HoldA.of (by assumption) _ | exact HoldA.of (Fr.sub hF (by repeat (first | exact List.Sublist.slnil | apply List.Sublist.cons_cons | apply List.Sublist.cons))) _)) (fun _ => ?_)
     clear hK K; try clear hbn
     try simp only [nrm, Act.put]
     refine tkf 17 rfl ?_ (v := .agg #[.int .i64 4, .int .i64 s.n, .int .i64 (untilI s.now 40), .bool false, .int .i64 d.client, .int .i64 au, .int .i64 d.sess, .int .i64 s.n, .string d.s1, .string d.s2, .string d.s3, .string d.s4, .string d.s5, .string d.s6, .string d.s7]) (hv := fun w => by kernel_rfl)
     try simp only [nrm, Act.put]
     refine rdw 18 rfl fun K hK => ?_
     go_simp
     go_at_call 86
     with_reducible refine (cp.out _ _ _ hF.data.2).mono ?_
     rintro _ ww ⟨A4, c4, rfl, hr4, hbn, hn4⟩
     have g4 := hF.below.size
     have hF0 := (hF.call hbn).sub (.cons _ (.cons_cons _ (.cons _ (.cons _ (.cons _ (.cons_cons _ (.cons_cons _ (.cons _ (.cons _ .slnil)))))))))
     replace hF := hF.rows hbn hr4 hn4 (fun _ h => h.2)
     refine hK.out _ _ (by (first | exact HoldA.past rfl | exact HoldA.of (by assumption) _ | exact HoldA.of (Fr.sub hF (by repeat (first | exact List.Sublist.slnil | apply List.Sublist.cons_cons | apply List.Sublist.cons))) _)) (fun _ => ?_)
     clear hK K; try clear hbn
     try simp only [nrm, Act.put]
     refine tkf 19 rfl ?_
     try simp only [nrm, Act.put]
     refine tkf 20 rfl ?_
     try simp only [nrm, Act.put]
     refine tkf 21 rfl ?_
     try simp only [nrm, Act.put]
     refine tkf 22 rfl ?_
     try simp only [nrm, Act.put]
     refine stc 23 0 (v := .slice _ _ _) hF rfl rfl rfl rfl rfl rfl rfl rfl ?_ (hS := fun W hW => .of ((hW.sub (.cons _ (.cons_cons _ (.cons _ (.cons _ (.cons _ (.cons_cons _ (.cons_cons _ (.cons _ (.cons _ .slnil)))))))))).weak fun _ h => h.1) _)
     clear hF; intro ww hF
     try simp only [nrm, Act.put]
     refine dnw ?_
     go_wp2_with (first
      | go_skip
      | (refine aA rfl rfl hF ?_; clear hF; intro gg ww hF; simp only [nf] at hF)
      | (refine aB rfl rfl hF rfl ?_; clear hF; intro gg ww hF; simp only [nf] at hF)
      | (refine iL (t := 3) hF rfl rfl fun ho hx hb => ?_; refine aC (v := .int _ _) ho hb hx hF rfl rfl ?_; clear ho hx hb)
      | (refine iL hF rfl rfl fun ho hx hb => ?_; (first | refine aL ho hb hx hF rfl rfl ?_ | refine aC (v := .slice _ _ _) ho hb hx hF rfl rfl ?_ | refine aC (v := .string _) ho hb hx hF rfl rfl ?_ | refine aC (v := .bool _) ho hb hx hF rfl rfl ?_); clear ho hx hb)
      | (refine iS hF rfl rfl fun ho hx hb => ?_; (first | refine aS ho hb hx hF rfl rfl rfl rfl ?_ | refine aT (v := .int _ _) ho hb hx hF rfl rfl rfl rfl ?_ | refine aT (v := .slice _ _ _) ho hb hx hF rfl rfl rfl rfl ?_ | refine aT (v := .bool _) ho hb hx hF rfl rfl rfl rfl ?_); clear ho hx hb hF; intro ww hF; simp only [nf] at hF)
      )
     refine rgw [] [_, _, _] hF (.cons_cons _ (.cons _ (.cons _ (.cons _ (.cons _ (.cons _ (.cons_cons _ (.cons _ (.cons_cons _ .slnil))))))))) fun hF => ?_
     refine tkb 0 0 [] rfl rfl rfl rfl rfl ?_
     try simp only [nrm, Act.put]
     refine tkb 1 2 [] rfl rfl rfl rfl rfl ?_
     try simp only [nrm, Act.put]
     refine tkb 2 1 [] rfl rfl rfl rfl rfl ?_
     try simp only [nrm, Act.put]
     refine tkf 3 rfl ?_
     try simp only [nrm, Act.put]
     refine stw 4 2 hF rfl rfl rfl rfl rfl rfl rfl rfl ?_
     clear hF; intro ww hF; simp only [nf] at hF
     try simp only [nrm, Act.put]
     refine stw 5 3 hF rfl rfl rfl rfl rfl rfl rfl rfl ?_
     clear hF; intro ww hF; simp only [nf] at hF
     try simp only [nrm, Act.put]
     refine stw 6 4 hF rfl rfl rfl rfl rfl rfl rfl rfl ?_
     clear hF; intro ww hF; simp only [nf] at hF
     try simp only [nrm, Act.put]
     refine tkf 7 rfl ?_
     try simp only [nrm, Act.put]
     refine tkf 8 rfl ?_
     try simp only [nrm, Act.put]
     refine dnw ?_
     go_wp2_with (first
      | go_skip
      | (refine aA rfl rfl hF ?_; clear hF; intro gg ww hF; simp only [nf] at hF)
      | (refine aB rfl rfl hF rfl ?_; clear hF; intro gg ww hF; simp only [nf] at hF)
      | (refine iL (t := 3) hF rfl rfl fun ho hx hb => ?_; refine aC (v := .int _ _) ho hb hx hF rfl rfl ?_; clear ho hx hb)
      | (refine iL hF rfl rfl fun ho hx hb => ?_; (first | refine aL ho hb hx hF rfl rfl ?_ | refine aC (v := .slice _ _ _) ho hb hx hF rfl rfl ?_ | refine aC (v := .string _) ho hb hx hF rfl rfl ?_ | refine aC (v := .bool _) ho hb hx hF rfl rfl ?_); clear ho hx hb)
      | (refine iS hF rfl rfl fun ho hx hb => ?_; (first | refine aS ho hb hx hF rfl rfl rfl rfl ?_ | refine aT (v := .int _ _) ho hb hx hF rfl rfl rfl rfl ?_ | refine aT (v := .slice _ _ _) ho hb hx hF rfl rfl rfl rfl ?_ | refine aT (v := .bool _) ho hb hx hF rfl rfl rfl rfl ?_); clear ho hx hb hF; intro ww hF; simp only [nf] at hF)
      )
     refine bodyPost_ret (results5 Tryz.results68 (res_cell 2 hF rfl rfl rfl) (res_cell 3 hF rfl rfl rfl) (res_cell 4 hF rfl rfl rfl) (.tmp _) (.tmp _)) rfl ⟨_, by rw [hv.out]; rfl, ?_⟩
     rw [hv.out]
     exact ⟨A4, c4, rfl, hF.data.2, NewRow.trans (NewRow.up g2 hn2) g4 hn4, hF.below⟩
end Go.Proofs.YtnhjgocdepbajaaGreat
