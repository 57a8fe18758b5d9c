/- Values of JSON made: countersignref12.O, S, I, B; seen.words, number, flag. No condition. -/
import Derived.Test.YtnhjgocdepbajaaGreatB5
set_option linter.unusedVariables false
set_option linter.unusedSimpArgs false
set_option maxRecDepth 20000
set_option maxHeartbeats 2000000
namespace Go.Proofs.YtnhjgocdepbajaaGreat
open Go.RowKit S19 C17 R
def c6 (k : Int) (b : Bool) (n : Int) (s : ByteArray) (NA : Option Addr) (nn nc : Nat) (A : Option Addr) (m c : Nat) : Array Value := #[.int .i64 k, .bool b, .int .i64 n, .string s, .slice NA nn nc, .slice A m c]
def c6s (s : ByteArray) : Array Value := c6 4 false 0 s none 0 0 none 0 0
def c6i (n : Int) : Array Value := c6 3 false n ⟨#[]⟩ none 0 0 none 0 0
def c6b (b : Bool) : Array Value := c6 2 b 0 ⟨#[]⟩ none 0 0 none 0 0
def vZ : Array Value := c6 0 false 0 ⟨#[]⟩ none 0 0 none 0 0
def p7 (q : ByteArray) (k : Int) (b : Bool) (n : Int) (s : ByteArray) : Array Value := #[.string q, .int .i64 k, .bool b, .int .i64 n, .string s, .slice none 0 0, .slice none 0 0]
def pZ : Array Value := p7 ⟨#[]⟩ 0 false 0 ⟨#[]⟩
instance {k : Int} {b : Bool} {n : Int} {s : ByteArray} {NA : Option Addr} {nn nc : Nat} {A : Option Addr} {m c : Nat} : Ones (c6 k b n s NA nn nc A m c) := inferInstanceAs (Ones #[.int .i64 k, .bool b, .int .i64 n, .string s, .slice NA nn nc, .slice A m c])
instance {s : ByteArray} : Ones (c6s s) := inferInstanceAs (Ones (c6 4 false 0 s none 0 0 none 0 0))
instance {n : Int} : Ones (c6i n) := inferInstanceAs (Ones (c6 3 false n ⟨#[]⟩ none 0 0 none 0 0))
instance {b : Bool} : Ones (c6b b) := inferInstanceAs (Ones (c6 2 b 0 ⟨#[]⟩ none 0 0 none 0 0))
instance {q : ByteArray} {k : Int} {b : Bool} {n : Int} {s : ByteArray} : Ones (p7 q k b n s) := inferInstanceAs (Ones #[.string q, .int .i64 k, .bool b, .int .i64 n, .string s, .slice none 0 0, .slice none 0 0])
instance : StructIs 48 := ⟨6, ⟨_, Tryz.underlying48, rfl⟩, by kernel_rfl⟩
instance : StructIs 86 := ⟨7, ⟨_, Tryz.underlying86, rfl⟩, by kernel_rfl⟩
instance : ZeroIs 48 vZ := ⟨.agg vZ, rfl, fun _ => by kernel_rfl⟩
instance : ZeroIs 86 pZ := ⟨.agg pZ, rfl, fun _ => by kernel_rfl⟩
theorem ro_walk (NA : Option Addr) (nn nc : Nat) (A : Option Addr) (m c : Nat) (w : World) :
  Calls Tryz.prog 22 #[.slice NA nn nc, .slice A m c] w fun e w' => e = .returned (.agg (c6 6 false 0 ⟨#[]⟩ NA nn nc A m c)) ∧ Below w.heap.size w w' := by
 have hF := Fr.nil w
 go_enter Tryz.func22, Tryz.ntmps22
 go_wp2_with (first
  | go_skip
  | (refine aA rfl rfl hF ?_; clear hF; intro gg ww hF; simp only [nf] at hF)
  | (refine aB rfl rfl hF rfl ?_; clear hF; intro gg ww hF; simp only [nf] at hF)
  | (refine iL (t := 3) hF rfl rfl fun ho hx hb => ?_; refine aC (v := .int _ _) ho hb hx hF rfl rfl ?_; clear ho hx hb)
  | (refine iL hF rfl rfl fun ho hx hb => ?_; (first | refine aL ho hb hx hF rfl rfl ?_ | refine aC (v := .slice _ _ _) ho hb hx hF rfl rfl ?_ | refine aC (v := .string _) ho hb hx hF rfl rfl ?_ | refine aC (v := .bool _) ho hb hx hF rfl rfl ?_); clear ho hx hb)
  | (refine iS hF rfl rfl fun ho hx hb => ?_; (first | refine aS ho hb hx hF rfl rfl rfl rfl ?_ | refine aT (v := .int _ _) ho hb hx hF rfl rfl rfl rfl ?_ | refine aT (v := .slice _ _ _) ho hb hx hF rfl rfl rfl rfl ?_ | refine aT (v := .bool _) ho hb hx hF rfl rfl rfl rfl ?_); clear ho hx hb hF; intro ww hF; simp only [nf] at hF)
  | (refine aV 48 (.agg (c6 6 false 0 ⟨#[]⟩ NA nn nc A m c)) rfl (fun _ => by kernel_rfl) rfl ?_)
  )
 exact bodyPost_ret (results1 Tryz.results22 (res_cell 0 hF rfl rfl rfl)) rfl ⟨rfl, hF.below⟩
theorem rs_walk (s : ByteArray) (w : World) :
  Calls Tryz.prog 23 #[.string s] w fun e w' => e = .returned (.agg (c6s s)) ∧ Below w.heap.size w w' := by
 have hF := Fr.nil w
 go_enter Tryz.func23, Tryz.ntmps23
 go_wp2_with (first
  | go_skip
  | (refine aA rfl rfl hF ?_; clear hF; intro gg ww hF; simp only [nf] at hF)
  | (refine aB rfl rfl hF rfl ?_; clear hF; intro gg ww hF; simp only [nf] at hF)
  | (refine iL (t := 3) hF rfl rfl fun ho hx hb => ?_; refine aC (v := .int _ _) ho hb hx hF rfl rfl ?_; clear ho hx hb)
  | (refine iL hF rfl rfl fun ho hx hb => ?_; (first | refine aL ho hb hx hF rfl rfl ?_ | refine aC (v := .slice _ _ _) ho hb hx hF rfl rfl ?_ | refine aC (v := .string _) ho hb hx hF rfl rfl ?_ | refine aC (v := .bool _) ho hb hx hF rfl rfl ?_); clear ho hx hb)
  | (refine iS hF rfl rfl fun ho hx hb => ?_; (first | refine aS ho hb hx hF rfl rfl rfl rfl ?_ | refine aT (v := .int _ _) ho hb hx hF rfl rfl rfl rfl ?_ | refine aT (v := .slice _ _ _) ho hb hx hF rfl rfl rfl rfl ?_ | refine aT (v := .bool _) ho hb hx hF rfl rfl rfl rfl ?_); clear ho hx hb hF; intro ww hF; simp only [nf] at hF)
  | (refine aV 48 (.agg (c6s s)) rfl (fun _ => by kernel_rfl) rfl ?_)
  )
 exact bodyPost_ret (results1 Tryz.results23 (res_cell 0 hF rfl rfl rfl)) rfl ⟨rfl, hF.below⟩
theorem ri_walk (n : Int) (w : World) :
  Calls Tryz.prog 24 #[.int .i64 n] w fun e w' => e = .returned (.agg (c6i n)) ∧ Below w.heap.size w w' := by
 have hF := Fr.nil w
 go_enter Tryz.func24, Tryz.ntmps24
 go_wp2_with (first
  | go_skip
  | (refine aA rfl rfl hF ?_; clear hF; intro gg ww hF; simp only [nf] at hF)
  | (refine aB rfl rfl hF rfl ?_; clear hF; intro gg ww hF; simp only [nf] at hF)
  | (refine iL (t := 3) hF rfl rfl fun ho hx hb => ?_; refine aC (v := .int _ _) ho hb hx hF rfl rfl ?_; clear ho hx hb)
  | (refine iL hF rfl rfl fun ho hx hb => ?_; (first | refine aL ho hb hx hF rfl rfl ?_ | refine aC (v := .slice _ _ _) ho hb hx hF rfl rfl ?_ | refine aC (v := .string _) ho hb hx hF rfl rfl ?_ | refine aC (v := .bool _) ho hb hx hF rfl rfl ?_); clear ho hx hb)
  | (refine iS hF rfl rfl fun ho hx hb => ?_; (first | refine aS ho hb hx hF rfl rfl rfl rfl ?_ | refine aT (v := .int _ _) ho hb hx hF rfl rfl rfl rfl ?_ | refine aT (v := .slice _ _ _) ho hb hx hF rfl rfl rfl rfl ?_ | refine aT (v := .bool _) ho hb hx hF rfl rfl rfl rfl ?_); clear ho hx hb hF; intro ww hF; simp only [nf] at hF)
  | (refine aV 48 (.agg (c6i n)) rfl (fun _ => by kernel_rfl) rfl ?_)
  )
 exact bodyPost_ret (results1 Tryz.results24 (res_cell 0 hF rfl rfl rfl)) rfl ⟨rfl, hF.below⟩
theorem words_walk (q s : ByteArray) (w : World) :
  Calls Tryz.prog 39 #[.string q, .string s] w fun e w' => e = .returned (.agg (p7 q 4 false 0 s)) ∧ Below w.heap.size w w' := by
 have hF := Fr.nil w
 go_enter Tryz.func39, Tryz.ntmps39
 go_wp2_with (first
  | go_skip
  | (refine aA rfl rfl hF ?_; clear hF; intro gg ww hF; simp only [nf] at hF)
  | (refine aB rfl rfl hF rfl ?_; clear hF; intro gg ww hF; simp only [nf] at hF)
  | (refine iL (t := 3) hF rfl rfl fun ho hx hb => ?_; refine aC (v := .int _ _) ho hb hx hF rfl rfl ?_; clear ho hx hb)
  | (refine iL hF rfl rfl fun ho hx hb => ?_; (first | refine aL ho hb hx hF rfl rfl ?_ | refine aC (v := .slice _ _ _) ho hb hx hF rfl rfl ?_ | refine aC (v := .string _) ho hb hx hF rfl rfl ?_ | refine aC (v := .bool _) ho hb hx hF rfl rfl ?_); clear ho hx hb)
  | (refine iS hF rfl rfl fun ho hx hb => ?_; (first | refine aS ho hb hx hF rfl rfl rfl rfl ?_ | refine aT (v := .int _ _) ho hb hx hF rfl rfl rfl rfl ?_ | refine aT (v := .slice _ _ _) ho hb hx hF rfl rfl rfl rfl ?_ | refine aT (v := .bool _) ho hb hx hF rfl rfl rfl rfl ?_); clear ho hx hb hF; intro ww hF; simp only [nf] at hF)
  | (first | refine aV 48 (.agg (c6s s)) rfl (fun _ => by kernel_rfl) rfl ?_ | refine aV 86 (.agg (p7 q 4 false 0 s)) rfl (fun _ => by kernel_rfl) rfl ?_)
  )
 exact bodyPost_ret (results1 Tryz.results39 (res_cell 0 hF rfl rfl rfl)) rfl ⟨rfl, hF.below⟩
theorem number_walk (q : ByteArray) (n : Int) (w : World) :
  Calls Tryz.prog 42 #[.string q, .int .i64 n] w fun e w' => e = .returned (.agg (p7 q 3 false n ⟨#[]⟩)) ∧ Below w.heap.size w w' := by
 have hF := Fr.nil w
 go_enter Tryz.func42, Tryz.ntmps42
 go_wp2_with (first
  | go_skip
  | (refine aA rfl rfl hF ?_; clear hF; intro gg ww hF; simp only [nf] at hF)
  | (refine aB rfl rfl hF rfl ?_; clear hF; intro gg ww hF; simp only [nf] at hF)
  | (refine iL (t := 3) hF rfl rfl fun ho hx hb => ?_; refine aC (v := .int _ _) ho hb hx hF rfl rfl ?_; clear ho hx hb)
  | (refine iL hF rfl rfl fun ho hx hb => ?_; (first | refine aL ho hb hx hF rfl rfl ?_ | refine aC (v := .slice _ _ _) ho hb hx hF rfl rfl ?_ | refine aC (v := .string _) ho hb hx hF rfl rfl ?_ | refine aC (v := .bool _) ho hb hx hF rfl rfl ?_); clear ho hx hb)
  | (refine iS hF rfl rfl fun ho hx hb => ?_; (first | refine aS ho hb hx hF rfl rfl rfl rfl ?_ | refine aT (v := .int _ _) ho hb hx hF rfl rfl rfl rfl ?_ | refine aT (v := .slice _ _ _) ho hb hx hF rfl rfl rfl rfl ?_ | refine aT (v := .bool _) ho hb hx hF rfl rfl rfl rfl ?_); clear ho hx hb hF; intro ww hF; simp only [nf] at hF)
  | (first | refine aV 48 (.agg (c6i n)) rfl (fun _ => by kernel_rfl) rfl ?_ | refine aV 86 (.agg (p7 q 3 false n ⟨#[]⟩)) rfl (fun _ => by kernel_rfl) rfl ?_)
  )
 exact bodyPost_ret (results1 Tryz.results42 (res_cell 0 hF rfl rfl rfl)) rfl ⟨rfl, hF.below⟩
theorem flag_walk (q : ByteArray) (b : Bool) (w : World) :
  Calls Tryz.prog 38 #[.string q, .bool b] w fun e w' => e = .returned (.agg (p7 q 2 b 0 ⟨#[]⟩)) ∧ Below w.heap.size w w' := by
 have hF := Fr.nil w
 go_enter Tryz.func38, Tryz.ntmps38
 go_wp2_with (first
  | go_skip
  | (refine aA rfl rfl hF ?_; clear hF; intro gg ww hF; simp only [nf] at hF)
  | (refine aB rfl rfl hF rfl ?_; clear hF; intro gg ww hF; simp only [nf] at hF)
  | (refine iL (t := 3) hF rfl rfl fun ho hx hb => ?_; refine aC (v := .int _ _) ho hb hx hF rfl rfl ?_; clear ho hx hb)
  | (refine iL hF rfl rfl fun ho hx hb => ?_; (first | refine aL ho hb hx hF rfl rfl ?_ | refine aC (v := .slice _ _ _) ho hb hx hF rfl rfl ?_ | refine aC (v := .string _) ho hb hx hF rfl rfl ?_ | refine aC (v := .bool _) ho hb hx hF rfl rfl ?_); clear ho hx hb)
  | (refine iS hF rfl rfl fun ho hx hb => ?_; (first | refine aS ho hb hx hF rfl rfl rfl rfl ?_ | refine aT (v := .int _ _) ho hb hx hF rfl rfl rfl rfl ?_ | refine aT (v := .slice _ _ _) ho hb hx hF rfl rfl rfl rfl ?_ | refine aT (v := .bool _) ho hb hx hF rfl rfl rfl rfl ?_); clear ho hx hb hF; intro ww hF; simp only [nf] at hF)
  | (first | refine aV 48 (.agg (c6b b)) rfl (fun _ => by kernel_rfl) rfl ?_ | refine aV 86 (.agg (p7 q 2 b 0 ⟨#[]⟩)) rfl (fun _ => by kernel_rfl) rfl ?_)
  )
 exact bodyPost_ret (results1 Tryz.results38 (res_cell 0 hF rfl rfl rfl)) rfl ⟨rfl, hF.below⟩
end Go.Proofs.YtnhjgocdepbajaaGreat
/- seen.list.client, user; countersignref23.names: the client's ID, the user's name. Condition: rows of sizes that a machine bears. Printed by wip/tools/genYj.py. -/
set_option linter.unusedVariables false
set_option linter.unusedSimpArgs false
set_option maxRecDepth 20000
namespace Go.Proofs.YtnhjgocdepbajaaGreat
open Go.RowKit S19 C17 R
theorem usAt_none {us : List UsP} {n : Int} (h : n < 1 ∨ (us.length : Int) < n) : usAt us n = none := by
 rw [usAt]
 split
 ·
  rfl
 ·
  rw [List.getElem?_eq_none_iff]; omega
theorem usAt_get {us : List UsP} {k : Nat} {u : UsP} (h : us[k]? = some u) : usAt us ((k : Int) + 1) = some u := by
 rw [usAt, if_neg (by omega), show ((k : Int) + 1 - 1).toNat = k by omega, h]
section
variable (b : Bs) (rs : List Rc) (cl : List Cl) (CA : Option Addr) (cc : Nat) (UA : Option Addr) (uc : Nat) (RA : Option Addr) (rc : Nat) (w : World) (hst : StH b rs w cl CA cc UA uc RA rc)
include hst
theorem client_walk (now n : Int) (hlm : cl.length ≤ 1000000) :
  Calls Tryz.prog 40 #[.agg (lsA b.nm b.key CA cl.length cc UA b.us.length uc RA rs.length rc now), .int .i64 n] w fun e w' => e = .returned (.string ⟨(clientL b.cls n).toArray⟩) ∧ Below w.heap.size w w' := by
 have hF := Fr.nil w
 have HS := Lib.hid hst
 have hlen := hst.len
 have hcc := hst.cls.1
 have huc := hst.us.1
 clear hst
 by_cases hlow : n < 1 ∨ (cl.length : Int) < n
 ·
  have hv : Hid (clientL b.cls n = []) := by show _ = _; rw [clientL, clAt_none (by omega)]
  rcases hlow with hlow | hlow
  ·
   clear hlen
   rw [hv.out]
   go_enter Tryz.func40, Tryz.ntmps40
   go_wp2_with (first
    | go_skip
    | (refine aA rfl rfl hF ?_; clear hF; intro gg ww hF; simp only [nf] at hF)
    | (refine aB rfl rfl hF rfl ?_; clear hF; intro gg ww hF; simp only [nf] at hF)
    | (refine iL (t := 3) hF rfl rfl fun ho hx hb => ?_; refine aC (v := .int _ _) ho hb hx hF rfl rfl ?_; clear ho hx hb)
    | (refine iL hF rfl rfl fun ho hx hb => ?_; (first | refine aL ho hb hx hF rfl rfl ?_ | refine aC (v := .slice _ _ _) ho hb hx hF rfl rfl ?_ | refine aC (v := .string _) ho hb hx hF rfl rfl ?_ | refine aC (v := .bool _) ho hb hx hF rfl rfl ?_); clear ho hx hb)
    | (refine iS hF rfl rfl fun ho hx hb => ?_; (first | refine aS ho hb hx hF rfl rfl rfl rfl ?_ | refine aT (v := .int _ _) ho hb hx hF rfl rfl rfl rfl ?_ | refine aT (v := .slice _ _ _) ho hb hx hF rfl rfl rfl rfl ?_ | refine aT (v := .bool _) ho hb hx hF rfl rfl rfl rfl ?_); clear ho hx hb hF; intro ww hF; simp only [nf] at hF)
    )
   go_ret
   exact ⟨rfl, hF.below⟩
  ·
   have hlow1 : ¬ n < 1 := by omega
   rw [hv.out]
   go_enter Tryz.func40, Tryz.ntmps40
   go_wp2_with (first
    | go_skip
    | (refine aA rfl rfl hF ?_; clear hF; intro gg ww hF; simp only [nf] at hF)
    | (refine aB rfl rfl hF rfl ?_; clear hF; intro gg ww hF; simp only [nf] at hF)
    | (refine iL (t := 3) hF rfl rfl fun ho hx hb => ?_; refine aC (v := .int _ _) ho hb hx hF rfl rfl ?_; clear ho hx hb)
    | (refine iL hF rfl rfl fun ho hx hb => ?_; (first | refine aL ho hb hx hF rfl rfl ?_ | refine aC (v := .slice _ _ _) ho hb hx hF rfl rfl ?_ | refine aC (v := .string _) ho hb hx hF rfl rfl ?_ | refine aC (v := .bool _) ho hb hx hF rfl rfl ?_); clear ho hx hb)
    | (refine iS hF rfl rfl fun ho hx hb => ?_; (first | refine aS ho hb hx hF rfl rfl rfl rfl ?_ | refine aT (v := .int _ _) ho hb hx hF rfl rfl rfl rfl ?_ | refine aT (v := .slice _ _ _) ho hb hx hF rfl rfl rfl rfl ?_ | refine aT (v := .bool _) ho hb hx hF rfl rfl rfl rfl ?_); clear ho hx hb hF; intro ww hF; simp only [nf] at hF)
    )
   go_ret
   exact ⟨rfl, hF.below⟩
 ·
  obtain ⟨k, rfl⟩ : ∃ k : Nat, n = (k : Int) + 1 := ⟨(n - 1).toNat, by omega⟩
  have hkl : k < cl.length := by omega
  obtain ⟨f, hfk⟩ : ∃ f, cl[k]? = some f := ⟨_, List.getElem?_eq_getElem hkl⟩
  have hv : Hid (clientL b.cls ((k : Int) + 1) = f.id) := by show _ = _; rw [clientL, clAt_get HS.out hfk]; rfl
  obtain ⟨ad, rfl⟩ : ∃ ad, CA = some ad := by obtain ⟨ad, h, _⟩ := HS.out.cls.2.1.2 (by omega); exact ⟨ad, h⟩
  have HR := Lib.hid (fun W (hb : Below w.heap.size w W) => (cl_four (HS.out.below hb).cls.2.1 hfk).1)
  have hk0 : ¬ (k : Int) + 1 < 1 := by omega
  have hk1 : ¬ (cl.length : Int) < (k : Int) + 1 := by omega
  have hk2 : IntKind.i64.wrap ((k : Int) + 1 - 1) = (k : Int) := by rw [IntKind.wrap_i64]; omega
  have hk3 : (k : Int) < (cl.length : Int) := by omega
  have hk4 : (k : Int) + 1 - 1 = (k : Int) := by omega
  have hk5 : IntKind.i64.wrap (k : Int) = (k : Int) := by rw [IntKind.wrap_i64]; omega
  rw [hv.out]
  clear hlow hfk hkl
  go_enter Tryz.func40, Tryz.ntmps40
  go_wp2_with (first
   | go_skip
   | (refine aA rfl rfl hF ?_; clear hF; intro gg ww hF; simp only [nf] at hF)
   | (refine aB rfl rfl hF rfl ?_; clear hF; intro gg ww hF; simp only [nf] at hF)
   | (refine iL (t := 3) hF rfl rfl fun ho hx hb => ?_; refine aC (v := .int _ _) ho hb hx hF rfl rfl ?_; clear ho hx hb)
   | (refine iL hF rfl rfl fun ho hx hb => ?_; (first | refine aL ho hb hx hF rfl rfl ?_ | refine aC (v := .slice _ _ _) ho hb hx hF rfl rfl ?_ | refine aC (v := .string _) ho hb hx hF rfl rfl ?_ | refine aC (v := .bool _) ho hb hx hF rfl rfl ?_); clear ho hx hb)
   | (refine iS hF rfl rfl fun ho hx hb => ?_; (first | refine aS ho hb hx hF rfl rfl rfl rfl ?_ | refine aT (v := .int _ _) ho hb hx hF rfl rfl rfl rfl ?_ | refine aT (v := .slice _ _ _) ho hb hx hF rfl rfl rfl rfl ?_ | refine aT (v := .bool _) ho hb hx hF rfl rfl rfl rfl ?_); clear ho hx hb hF; intro ww hF; simp only [nf] at hF)
   | (refine wpL rfl fun K hK => wp_val (exec_at (t' := 9) rfl rfl (HR.out _ hF.below)) (hK _ _ ?_))
   )
  go_ret
  exact ⟨rfl, hF.below⟩
theorem user_walk (now n : Int) (hlm : b.us.length ≤ 1000000) :
  Calls Tryz.prog 41 #[.agg (lsA b.nm b.key CA cl.length cc UA b.us.length uc RA rs.length rc now), .int .i64 n] w fun e w' => e = .returned (.string ⟨(userL b.us n).toArray⟩) ∧ Below w.heap.size w w' := by
 have hF := Fr.nil w
 have HS := Lib.hid hst
 have hlen := hst.len
 have hcc := hst.cls.1
 have huc := hst.us.1
 clear hst
 by_cases hlow : n < 1 ∨ (b.us.length : Int) < n
 ·
  have hv : Hid (userL b.us n = []) := by show _ = _; rw [userL, usAt_none hlow]
  rcases hlow with hlow | hlow
  ·
   clear hlen
   rw [hv.out]
   go_enter Tryz.func41, Tryz.ntmps41
   go_wp2_with (first
    | go_skip
    | (refine aA rfl rfl hF ?_; clear hF; intro gg ww hF; simp only [nf] at hF)
    | (refine aB rfl rfl hF rfl ?_; clear hF; intro gg ww hF; simp only [nf] at hF)
    | (refine iL (t := 3) hF rfl rfl fun ho hx hb => ?_; refine aC (v := .int _ _) ho hb hx hF rfl rfl ?_; clear ho hx hb)
    | (refine iL hF rfl rfl fun ho hx hb => ?_; (first | refine aL ho hb hx hF rfl rfl ?_ | refine aC (v := .slice _ _ _) ho hb hx hF rfl rfl ?_ | refine aC (v := .string _) ho hb hx hF rfl rfl ?_ | refine aC (v := .bool _) ho hb hx hF rfl rfl ?_); clear ho hx hb)
    | (refine iS hF rfl rfl fun ho hx hb => ?_; (first | refine aS ho hb hx hF rfl rfl rfl rfl ?_ | refine aT (v := .int _ _) ho hb hx hF rfl rfl rfl rfl ?_ | refine aT (v := .slice _ _ _) ho hb hx hF rfl rfl rfl rfl ?_ | refine aT (v := .bool _) ho hb hx hF rfl rfl rfl rfl ?_); clear ho hx hb hF; intro ww hF; simp only [nf] at hF)
    )
   go_ret
   exact ⟨rfl, hF.below⟩
  ·
   have hlow1 : ¬ n < 1 := by omega
   rw [hv.out]
   go_enter Tryz.func41, Tryz.ntmps41
   go_wp2_with (first
    | go_skip
    | (refine aA rfl rfl hF ?_; clear hF; intro gg ww hF; simp only [nf] at hF)
    | (refine aB rfl rfl hF rfl ?_; clear hF; intro gg ww hF; simp only [nf] at hF)
    | (refine iL (t := 3) hF rfl rfl fun ho hx hb => ?_; refine aC (v := .int _ _) ho hb hx hF rfl rfl ?_; clear ho hx hb)
    | (refine iL hF rfl rfl fun ho hx hb => ?_; (first | refine aL ho hb hx hF rfl rfl ?_ | refine aC (v := .slice _ _ _) ho hb hx hF rfl rfl ?_ | refine aC (v := .string _) ho hb hx hF rfl rfl ?_ | refine aC (v := .bool _) ho hb hx hF rfl rfl ?_); clear ho hx hb)
    | (refine iS hF rfl rfl fun ho hx hb => ?_; (first | refine aS ho hb hx hF rfl rfl rfl rfl ?_ | refine aT (v := .int _ _) ho hb hx hF rfl rfl rfl rfl ?_ | refine aT (v := .slice _ _ _) ho hb hx hF rfl rfl rfl rfl ?_ | refine aT (v := .bool _) ho hb hx hF rfl rfl rfl rfl ?_); clear ho hx hb hF; intro ww hF; simp only [nf] at hF)
    )
   go_ret
   exact ⟨rfl, hF.below⟩
 ·
  obtain ⟨k, rfl⟩ : ∃ k : Nat, n = (k : Int) + 1 := ⟨(n - 1).toNat, by omega⟩
  have hkl : k < b.us.length := by omega
  obtain ⟨f, hfk⟩ : ∃ f, b.us[k]? = some f := ⟨_, List.getElem?_eq_getElem hkl⟩
  have hv : Hid (userL b.us ((k : Int) + 1) = f.nm) := by show _ = _; rw [userL, usAt_get hfk]
  obtain ⟨ad, rfl⟩ : ∃ ad, UA = some ad := by obtain ⟨ad, h, _⟩ := HS.out.us.2.2 (by omega); exact ⟨ad, h⟩
  have HR := Lib.hid (fun W (hb : Below w.heap.size w W) => (us_two (HS.out.below hb).us.2 hfk).1)
  have hk0 : ¬ (k : Int) + 1 < 1 := by omega
  have hk1 : ¬ (b.us.length : Int) < (k : Int) + 1 := by omega
  have hk2 : IntKind.i64.wrap ((k : Int) + 1 - 1) = (k : Int) := by rw [IntKind.wrap_i64]; omega
  have hk3 : (k : Int) < (b.us.length : Int) := by omega
  have hk4 : (k : Int) + 1 - 1 = (k : Int) := by omega
  have hk5 : IntKind.i64.wrap (k : Int) = (k : Int) := by rw [IntKind.wrap_i64]; omega
  rw [hv.out]
  clear hlow hfk hkl
  go_enter Tryz.func41, Tryz.ntmps41
  go_wp2_with (first
   | go_skip
   | (refine aA rfl rfl hF ?_; clear hF; intro gg ww hF; simp only [nf] at hF)
   | (refine aB rfl rfl hF rfl ?_; clear hF; intro gg ww hF; simp only [nf] at hF)
   | (refine iL (t := 3) hF rfl rfl fun ho hx hb => ?_; refine aC (v := .int _ _) ho hb hx hF rfl rfl ?_; clear ho hx hb)
   | (refine iL hF rfl rfl fun ho hx hb => ?_; (first | refine aL ho hb hx hF rfl rfl ?_ | refine aC (v := .slice _ _ _) ho hb hx hF rfl rfl ?_ | refine aC (v := .string _) ho hb hx hF rfl rfl ?_ | refine aC (v := .bool _) ho hb hx hF rfl rfl ?_); clear ho hx hb)
   | (refine iS hF rfl rfl fun ho hx hb => ?_; (first | refine aS ho hb hx hF rfl rfl rfl rfl ?_ | refine aT (v := .int _ _) ho hb hx hF rfl rfl rfl rfl ?_ | refine aT (v := .slice _ _ _) ho hb hx hF rfl rfl rfl rfl ?_ | refine aT (v := .bool _) ho hb hx hF rfl rfl rfl rfl ?_); clear ho hx hb hF; intro ww hF; simp only [nf] at hF)
   | (refine wpL rfl fun K hK => wp_val (exec_at (t' := 9) rfl rfl (HR.out _ hF.below)) (hK _ _ ?_))
   )
  go_ret
  exact ⟨rfl, hF.below⟩
end
end Go.Proofs.YtnhjgocdepbajaaGreat
/- Objects of JSON in memory; an operation that makes a row in a region that draws. No condition. -/
set_option linter.unusedVariables false
set_option linter.unusedSimpArgs false
set_option maxRecDepth 20000
namespace Go.Proofs.YtnhjgocdepbajaaGreat
open Go.RowKit S19 C17 R
structure Leaf where
 k : Int
 b : Bool
 n : Int
 s : List UInt8
def Leaf.jv (l : Leaf) : Jv := .mk l.k l.b l.n l.s [] []
def Leaf.cells (l : Leaf) : List Value := cells6 l.k l.b l.n l.s none 0 0 none 0 0
def leafCells (ls : List Leaf) : List Value := (ls.map Leaf.cells).flatten
theorem leaf_v (w : World) (lo : Nat) (l : Leaf) : JvV w lo l.jv l.cells := by
 rw [Leaf.jv, JvV]
 exact ⟨none, 0, none, 0, [], rfl, ⟨Nat.le_refl _, by decide⟩, ⟨Nat.le_refl _, by decide⟩, Reads.none_, fun h => by simp at h, Reads.none_, fun h => by simp at h, rfl⟩
theorem leaf_vs (w : World) (lo : Nat) : ∀ ls : List Leaf, JvsV w lo (ls.map Leaf.jv) (ls.map Leaf.cells)
 | [] => by simp [JvsV]
 | l :: ls => by
  rw [List.map_cons, List.map_cons, JvsV]
  exact ⟨_, _, rfl, leaf_v w lo l, leaf_vs w lo ls⟩
theorem leaf_len (ls : List Leaf) : (leafCells ls).length = ls.length * 6 := by
 induction ls with
 | nil => rfl
 | cons l ls ih =>
  rw [leafCells, List.map_cons, List.flatten_cons, List.length_append, ← leafCells, ih, List.length_cons, show l.cells.length = 6 from rfl]
  omega
def objJ (ns : List (List UInt8)) (ls : List Leaf) : Jv := .mk 6 false 0 [] ns (ls.map Leaf.jv)
theorem obj_v {w : World} {g h nc c : Nat} {t t' : TypeId} {ns : List (List UInt8)} {ls : List Leaf} (hg : Blk w g t (strVs ns).toArray) (hh : Blk w h t' (leafCells ls).toArray) (hn : ns.length ≤ 1000) (hl : ls.length ≤ 1000) (hnc : ns.length ≤ nc ∧ nc ≤ 9223372036854775807) (hc : ls.length ≤ c ∧ c ≤ 9223372036854775807) :
  JvV w 0 (objJ ns ls) (cells6 6 false 0 [] (some ⟨g, 0, none⟩) ns.length nc (some ⟨h, 0, none⟩) ls.length c) := by
 rw [objJ, JvV]
 refine ⟨some ⟨g, 0, none⟩, nc, some ⟨h, 0, none⟩, c, ls.map Leaf.cells, by rw [List.length_map], hnc, by rw [List.length_map]; exact hc, K9.blk_reads hg (by rw [strVs, List.length_map]; omega), fun _ ad _ => Nat.zero_le _, ?_, fun _ ad _ => Nat.zero_le _, leaf_vs w 0 ls⟩
 rw [List.length_map]
 exact K9.blk_reads hh (leaf_len ls)
section
variable {md : Region.Mode} {ops : Array Oper} {Q : Exit → Act → World → Prop} {fuel : Nat} {listed : Array Bool} {a : Act} {w w0 : World} {bs : List Bx} {D : World → Prop}
theorem rd2 {S : Array Bool → World → Prop} (i j : Nat) {o o' : Oper} (ho : ops[i]? = some o) (ho' : ops[j]? = some o')
  (h : ∀ K' : Act → World → Prop, Shut (∀ a w, S (listed.setIfInBounds i true) w → (S (listed.setIfInBounds i true) w → wpAnyL Tryz.prog md ops Q S fuel (listed.setIfInBounds i true) a w) → K' a w) → if Region.wanted o (yielded ops a.tmps) = true then Oper.wp Tryz.prog o a w K' Q else K' (a.put o.dst undef) w)
  (h' : ∀ K' : Act → World → Prop, Shut (∀ a w, S (listed.setIfInBounds j true) w → (S (listed.setIfInBounds j true) w → wpAnyL Tryz.prog md ops Q S fuel (listed.setIfInBounds j true) a w) → K' a w) → if Region.wanted o' (yielded ops a.tmps) = true then Oper.wp Tryz.prog o' a w K' Q else K' (a.put o'.dst undef) w)
  (hr : Region.ready md ops listed = [i, j] := by kernel_rfl) : wpAnyL Tryz.prog md ops Q S (fuel + 1) listed a w :=
 wpAnyL_ready hr (by simp) (AllReadyL.cons ho h (AllReadyL.cons ho' h' AllReadyL.nil))
theorem bsv (cs : Array Value) (e : TypeId) (n : Nat) {o : Oper} {K' : Act → World → Prop} (hF : Fr w0 w bs D) (hw : Region.wanted o (yielded ops a.tmps) = true)
  (hv : ∀ w, (execOp a.eval o).run Tryz.prog w = .ok (.value (.slice (some ⟨w.heap.size, 0, none⟩) n n)) (w.alloc (.cells cs e)))
  (h : ∀ g w', Fr w0 w' (bs ++ [(g, e, cs)]) D → K' (a.put o.dst (.slice (some ⟨g, 0, none⟩) n n)) w') : if Region.wanted o (yielded ops a.tmps) = true then Oper.wp Tryz.prog o a w K' Q else K' (a.put o.dst undef) w := by
 rw [if_pos hw]
 unfold Oper.wp
 rw [hv w]
 exact h _ _ (hF.alloc e cs)
end
end Go.Proofs.YtnhjgocdepbajaaGreat
/- A frame outlasts an append to a row that is none of its variables. No condition. -/
set_option linter.unusedVariables false
namespace Go.Proofs.YtnhjgocdepbajaaGreat
open Go.RowKit S19 C17 R
theorem Fr.step {w0 w w' : World} {bs : List Bx} {D D' : World → Prop} (h : Fr w0 w bs D) {row : Option Nat} (hb : w.grownBy w' row) (hr : ∀ g, row = some g → w0.heap.size ≤ g ∧ ∀ x ∈ bs, x.1 ≠ g) (hk : Kp w' bs D') : Fr w0 w' bs D' :=
 ⟨h.below.grown hb h.below.size (fun q hq => (hr q hq).1), fun i x e => ⟨(h.blk i x e).1, (h.blk i x e).2.grown hb (fun e3 => (hr x.1 e3.symm).2 x (List.mem_iff_getElem?.2 ⟨i, e⟩) rfl)⟩, h.ne, hk⟩
theorem kp_owns {w : World} {bs : List Bx} {base : Nat} {e : TypeId} {size n : Nat} {v : Value} {xs : List Value} (h : w.ownsRow base e size v n xs) (hb : ∀ g, v.ownBlock = some g → ∀ x ∈ bs, x.1 ≠ g) : Kp w bs (fun W => W.ownsRow base e size v n xs) := by
 refine fun w' hs hk => ⟨h.1, ?_⟩
 rcases h.2 with hn | ⟨g, cap, cur, rfl, hg, hc, hrest⟩
 ·
  exact .inl hn
 ·
  refine .inr ⟨g, cap, cur, rfl, hg, (hk g ?_ (hb g rfl)).trans hc, hrest⟩
  exact (Array.getElem?_eq_some_iff.1 hc).1
end Go.Proofs.YtnhjgocdepbajaaGreat
/- A frame with two rows that the call itself appends to. No condition. -/
set_option linter.unusedVariables false
set_option linter.unusedSimpArgs false
set_option maxRecDepth 20000
namespace Go.Proofs.YtnhjgocdepbajaaGreat
open Go.RowKit S19 C17 R
theorem Kp.own_ne {w : World} {bs : List Bx} {base : Nat} {e : TypeId} {size n : Nat} {v : Value} {xs : List Value} (h : Kp w bs (fun W => W.ownsRow base e size v n xs)) {x : Bx} (hx : x ∈ bs) (hl : x.1 < w.heap.size) : v.ownBlock ≠ some x.1 := by
 intro hv
 have h1 := h { w with heap := w.heap.setIfInBounds x.1 (.cells #[] (e + 1)) } (by simp) (fun k hk hn => by simp [Array.getElem?_setIfInBounds, hn x hx])
 rcases h1.2 with ⟨rfl, _⟩ | ⟨g, cap, cur, rfl, _, hh, _⟩
 ·
  simp [Value.ownBlock] at hv
 ·
  have : g = x.1 := by simpa [Value.ownBlock] using hv
  subst this
  simp [hl] at hh
abbrev Two (base : Nat) (e1 : TypeId) (s1 : Nat) (v1 : Value) (n1 : Nat) (xs1 : List Value) (e2 : TypeId) (s2 : Nat) (v2 : Value) (n2 : Nat) (xs2 : List Value) (W : World) : Prop := W.ownsRow base e1 s1 v1 n1 xs1 ∧ W.ownsRow base e2 s2 v2 n2 xs2
theorem Fr.app1 {w0 w w' : World} {bs : List Bx} {e1 e2 : TypeId} {s1 s2 n1 n2 m1 : Nat} {v1 v2 u1 : Value} {xs1 xs2 ys1 : List Value} (h : Fr w0 w bs (Two w0.heap.size e1 s1 v1 n1 xs1 e2 s2 v2 n2 xs2)) (hne : e1 ≠ e2)
  (ho : w'.ownsRow w0.heap.size e1 s1 u1 m1 ys1) (hg : w.grownBy w' v1.ownBlock) (hat : u1.ownBlock = v1.ownBlock ∨ u1.ownBlock = some w.heap.size) : Fr w0 w' bs (Two w0.heap.size e1 s1 u1 m1 ys1 e2 s2 v2 n2 xs2) := by
 have hk1 : Kp w bs (fun W => W.ownsRow w0.heap.size e1 s1 v1 n1 xs1) := h.kp.mono fun _ h => h.1
 have hk2 : Kp w bs (fun W => W.ownsRow w0.heap.size e2 s2 v2 n2 xs2) := h.kp.mono fun _ h => h.2
 have b1 := fun x hx => hk1.own_ne (x := x) hx (h.mem hx).2
 have b2 := fun x hx => hk2.own_ne (x := x) hx (h.mem hx).2
 have hd := h.data
 have h12 : ∀ g, v2.ownBlock = some g → v1.ownBlock ≠ some g := fun g h2 h1 => by
  rcases hd.1.2 with ⟨rfl, _⟩ | ⟨g1, c1, cur1, rfl, _, hh1, _⟩
  ·
   simp [Value.ownBlock] at h1
  ·
   rcases hd.2.2 with ⟨rfl, _⟩ | ⟨g2, c2, cur2, rfl, _, hh2, _⟩
   ·
    simp [Value.ownBlock] at h2
   ·
    have e1' : g1 = g := by simpa [Value.ownBlock] using h1
    have e2' : g2 = g := by simpa [Value.ownBlock] using h2
    rw [e1'] at hh1
    rw [e2', hh1] at hh2
    injection hh2 with hh2
    injection hh2 with _ ht
    exact hne ht
 refine h.step hg (fun g hg' => ⟨(hd.1.lt g hg').1, fun x hx e => b1 x hx (by rw [hg', e])⟩) (Kp.both (kp_owns ho fun g hu x hx e => ?_) (kp_owns (hd.2.kept hg ?_) fun g hv x hx e => b2 x hx (by rw [hv, e])))
 ·
  rcases hat with ha | ha
  ·
   exact b1 x hx (by rw [← ha, hu, e])
  ·
   rw [hu] at ha
   injection ha with ha
   have := (h.mem hx).2
   omega
 ·
  rcases hv : v2.ownBlock with _ | g
  ·
   exact .inl rfl
  ·
   exact .inr fun e => h12 g hv e.symm
theorem Fr.swap {w0 w : World} {bs : List Bx} {b e1 e2 : Nat} {s1 s2 n1 n2 : Nat} {v1 v2 : Value} {xs1 xs2 : List Value} (h : Fr w0 w bs (Two b e1 s1 v1 n1 xs1 e2 s2 v2 n2 xs2)) : Fr w0 w bs (Two b e2 s2 v2 n2 xs2 e1 s1 v1 n1 xs1) := h.weak fun _ h => ⟨h.2, h.1⟩
section
variable {ops : Array Oper} {Q : Exit → Act → World → Prop} {w0 w : World} {bs : List Bx} {a : Act} {o : Oper} {K : Act → World → Prop} {e1 e2 : TypeId} {s1 s2 n1 n2 : Nat} {v1 v2 : Value} {xs1 xs2 : List Value} {E : Prop}
theorem ap1 (bx : Nat) (t : TypeId) (i : TypeInfo) (z : Value) (bytes : Nat) {g : Nat} {cs : Array Value} {s x : Operand} (hF : Fr w0 w bs (Two w0.heap.size e1 s1 v1 n1 xs1 e2 s2 v2 n2 xs2)) (hne : e1 ≠ e2) (hw : Region.wanted o (yielded ops a.tmps) = true)
  (ho : o.op = .call { callee := .builtin .append, args := #[s, x], argTypes := #[t, t] }) (ht : Tryz.prog.underlying t = some (.slice e1)) (hi : Tryz.prog.info? e1 = some i) (hz : i.zero = some z) (hsize : i.size = s1) (hby : i.bytes = bytes) (hzs : z.cells.size = s1) (hsz : 0 < s1)
  (hb : bs[bx]? = some (g, e1, cs)) (hs : a.eval s = v1) (hx : a.eval x = .slice (some ⟨g, 0, none⟩) 1 1) (hcs : cs.size = s1) (h1 : Ones cs) (hn : n1 ≤ 1000)  (hbm : bytes ≤ 1000000)
  (h : ∀ g' cap w', n1 + 1 ≤ cap → cap ≤ maxLen → Fr w0 w' bs (Two w0.heap.size e1 s1 (.slice (some ⟨g', 0, none⟩) (n1 + 1) cap) (n1 + 1) (xs1 ++ cs.toList) e2 s2 v2 n2 xs2) → K (a.put o.dst (.slice (some ⟨g', 0, none⟩) (n1 + 1) cap)) w') :
  if Region.wanted o (yielded ops a.tmps) = true then Oper.wp Tryz.prog o a w K Q else E := by
 rw [if_pos hw]
 refine wp_append_lies w s x t ho w0.heap.size e1 i z s1 bytes ht hi hz hsize hby hzs hsz v1 n1 xs1 hs hF.data.1 ⟨g, 0, none⟩ 1 1 cs.toList hx (by rw [Array.length_toList, hcs]; omega) (World.news_of_block (hF.blk bx _ hb).2) (by have := Array.all_eq_true_iff_forall_mem.1 h1.h; exact fun u hu => this u (by simpa using hu)) (by decide) (by unfold maxLen; omega) (by have : (n1 + 1) * bytes ≤ 1001 * 1000000 := Nat.mul_le_mul (by omega) hbm; omega) hF.below.size w.heap.size rfl fun g' cap w' hown hg hat hlt => ?_
 have hF' := hF.app1 hne hown hg (hat.elim (fun h => .inl h.symm) (fun h => .inr (by rw [← h]; rfl)))
 rcases hown.2 with ⟨h0, _⟩ | ⟨g2, cap2, cur, h0, _, _, hc1, hc2, _⟩
 ·
  simp at h0
 ·
  have : cap = cap2 := by injection h0
  subst this
  exact h g' cap w' hc1 hc2 hF'
theorem ap2 (bx : Nat) (t : TypeId) (i : TypeInfo) (z : Value) (bytes : Nat) {g : Nat} {cs : Array Value} {s x : Operand} (hF : Fr w0 w bs (Two w0.heap.size e1 s1 v1 n1 xs1 e2 s2 v2 n2 xs2)) (hne : e1 ≠ e2) (hw : Region.wanted o (yielded ops a.tmps) = true)
  (ho : o.op = .call { callee := .builtin .append, args := #[s, x], argTypes := #[t, t] }) (ht : Tryz.prog.underlying t = some (.slice e2)) (hi : Tryz.prog.info? e2 = some i) (hz : i.zero = some z) (hsize : i.size = s2) (hby : i.bytes = bytes) (hzs : z.cells.size = s2) (hsz : 0 < s2)
  (hb : bs[bx]? = some (g, e2, cs)) (hs : a.eval s = v2) (hx : a.eval x = .slice (some ⟨g, 0, none⟩) 1 1) (hcs : cs.size = s2) (h1 : Ones cs) (hn : n2 ≤ 1000)  (hbm : bytes ≤ 1000000)
  (h : ∀ g' cap w', n2 + 1 ≤ cap → cap ≤ maxLen → Fr w0 w' bs (Two w0.heap.size e1 s1 v1 n1 xs1 e2 s2 (.slice (some ⟨g', 0, none⟩) (n2 + 1) cap) (n2 + 1) (xs2 ++ cs.toList)) → K (a.put o.dst (.slice (some ⟨g', 0, none⟩) (n2 + 1) cap)) w') :
  if Region.wanted o (yielded ops a.tmps) = true then Oper.wp Tryz.prog o a w K Q else E :=
 ap1 bx t i z bytes hF.swap (Ne.symm hne) hw ho ht hi hz hsize hby hzs hsz hb hs hx hcs h1 hn hbm fun g' cap w' hc1 hc2 hF' => h g' cap w' hc1 hc2 hF'.swap
end
end Go.Proofs.YtnhjgocdepbajaaGreat
/- countersignref23.Tell. Condition: rows of sizes that a machine bears. Printed by wip/tools/genYl.py. -/
set_option linter.unusedVariables false
set_option linter.unusedSimpArgs false
set_option maxRecDepth 20000
namespace Go.Proofs.YtnhjgocdepbajaaGreat
open Go.RowKit S19 C17 R
def uAct : List UInt8 := [97, 99, 116, 105, 118, 101]
def uCid : List UInt8 := [99, 108, 105, 101, 110, 116, 95, 105, 100]
def uSub : List UInt8 := [115, 117, 98]
def uSco : List UInt8 := [115, 99, 111, 112, 101]
def uExp : List UInt8 := [101, 120, 112]
def lfT (s : List UInt8) : Leaf := ⟨4, false, 0, s⟩
def lfI (n : Int) : Leaf := ⟨3, false, n, []⟩
def lfB (b : Bool) : Leaf := ⟨2, b, 0, []⟩
def tellJ (cls : List ClP) (us : List UsP) : Option Rc → Jv
 | none => objJ [uAct] [lfB false]
 | some r => objJ [uAct, uCid, uSub, uSco, uExp] [lfB true, lfT (clientL cls r.client), lfT (userL us r.user), lfT r.s3.data.toList, lfI r.till]
section
variable (b : Bs) (rs : List Rc) (now key : Int) (cl : List Cl) (CA : Option Addr) (cc : Nat) (UA : Option Addr) (uc : Nat) (RA : Option Addr) (rc : Nat) (w : World) (hst : StH b rs w cl CA cc UA uc RA rc)
 (hlc : cl.length ≤ 1000000) (hlu : b.us.length ≤ 1000000)
include hst hlc hlu
end
end Go.Proofs.YtnhjgocdepbajaaGreat
/- countersignref23.Claims. Conditions: rows of sizes that a machine bears, a time within bounds. Printed by wip/tools/genYm.py. -/
set_option linter.unusedVariables false
set_option linter.unusedSimpArgs false
set_option maxRecDepth 20000
namespace Go.Proofs.YtnhjgocdepbajaaGreat
open Go.RowKit S19 C17 R
def uHtt : List UInt8 := [104, 116, 116, 112, 115, 58, 47, 47]
def uIss : List UInt8 := [105, 115, 115]
def uAud : List UInt8 := [97, 117, 100]
def uIat : List UInt8 := [105, 97, 116]
def uNon : List UInt8 := [110, 111, 110, 99, 101]
def claimsJ (b : Bs) (now : Int) (r : Rc) : Jv :=
 objJ [uIss, uSub, uAud, uExp, uIat, uNon] [lfT (uHtt ++ b.nm), lfT (userL b.us r.user), lfT (clientL b.cls r.client), lfI (untilI now 300), lfI now, lfT r.s5.data.toList]
section
variable (b : Bs) (rs : List Rc) (now : Int) (cl : List Cl) (CA : Option Addr) (cc : Nat) (UA : Option Addr) (uc : Nat) (RA : Option Addr) (rc : Nat) (w : World) (hst : StH b rs w cl CA cc UA uc RA rc)
 (hlc : cl.length ≤ 1000000) (hlu : b.us.length ≤ 1000000) (hnow : 0 ≤ now ∧ now ≤ 1099511627776) (hnm : b.nm.length ≤ 1000000)
include hst hlc hlu hnow hnm
end
end Go.Proofs.YtnhjgocdepbajaaGreat
/- draw.Until of the program, for a life of 300. Condition: a time within bounds. -/
set_option linter.unusedVariables false
set_option linter.unusedSimpArgs false
set_option maxRecDepth 20000
namespace Go.Proofs.YtnhjgocdepbajaaGreat
open Go.RowKit S19 C17 R
theorem puntil_walk (now : Int) (w : World) (h0 : 0 ≤ now) (h1 : now ≤ 1099511627776) :
  Calls Tryz.prog 51 #[.int .i64 now, .int .i64 300] w fun e w' => e = .returned (.int .i64 (untilI now 300)) ∧ Below w.heap.size w w' := by
 have hn : ¬ now < 0 := by omega
 have hp : now ≥ 0 := h0
 have hw1 : IntKind.i64.wrap (1099511627776 - now) = 1099511627776 - now := by rw [IntKind.wrap_i64]; omega
 by_cases h : 1099511627776 - now < 300
 ·
  have hv : Hid (untilI now 300 = 1099511627776) := by show _ = _; rw [untilI, if_pos (by show _ < max 300 0; omega)]
  rw [hv.out]
  go_enter Tryz.func51, Tryz.ntmps51
  go_wp2_with fail
  go_ret
  exact ⟨rfl, Below.refl _ _⟩
 ·
  have hv : Hid (untilI now 300 = now + 300) := by show _ = _; rw [untilI, if_neg (by show ¬ _ < max 300 0; omega)]; rfl
  have hw2 : IntKind.i64.wrap (now + 300) = now + 300 := by rw [IntKind.wrap_i64]; omega
  rw [hv.out]
  go_enter Tryz.func51, Tryz.ntmps51
  go_wp2_with fail
  go_ret
  exact ⟨rfl, Below.refl _ _⟩
end Go.Proofs.YtnhjgocdepbajaaGreat
/- Regions that draw their order and make rows that hang on nothing: the other operations are walked once, whichever of those rows have been made by then. No condition of its own. -/
set_option linter.unusedVariables false
set_option linter.unusedSimpArgs false
set_option maxRecDepth 20000
namespace Go.Proofs.YtnhjgocdepbajaaGreat
namespace R
open Go.RowKit
theorem Fr.perm {w0 w : World} {bs bs' : List Bx} {D : World → Prop} (h : Fr w0 w bs D) (hp : bs.Perm bs') : Fr w0 w bs' D := by
 have hpw := (List.Perm.pairwise_iff (R := fun (x y : Bx) => x.1 ≠ y.1) (fun h e => h e.symm) hp).1 h.pair
 have hpi := List.pairwise_iff_getElem.1 hpw
 refine ⟨h.below, fun i x hi => ?_, fun i j x y hi hj hij => ?_, fun w' hs hk => h.kp w' hs fun k hl hn => hk k hl fun x hx => hn x (hp.mem_iff.2 hx)⟩
 ·
  obtain ⟨j, hj⟩ := List.mem_iff_getElem?.1 (hp.mem_iff.2 (List.mem_iff_getElem?.2 ⟨i, hi⟩))
  exact h.blk j x hj
 ·
  obtain ⟨hil, ei⟩ := List.getElem?_eq_some_iff.1 hi
  obtain ⟨hjl, ej⟩ := List.getElem?_eq_some_iff.1 hj
  rcases Nat.lt_or_gt_of_ne hij with h1 | h1
  ·
   rw [← ei, ← ej]; exact hpi i j hil hjl h1
  ·
   rw [← ei, ← ej]; exact (hpi j i hjl hil h1).symm
theorem Fr.front {w0 w : World} {bs cs : List Bx} {D : World → Prop} (h : Fr w0 w (bs ++ cs) D) : Fr w0 w bs D := Fr.sub h (List.sublist_append_left _ _)
theorem put_comm (a : Act) {d e : Tmp} (h : d ≠ e) (u v : Value) : (a.put (some d) u).put (some e) v = (a.put (some e) v).put (some d) u := by
 simp only [Act.put]
 rw [Array.setIfInBounds_comm _ _ h]
structure FreeD where
 i : Nat
 d : Tmp
 t : TypeId
 cs : Array Value
 vf : Nat → Value
def FreeOk (ops : Array Oper) (f : FreeD) : Prop := ∃ o, ops[f.i]? = some o ∧ o.dst = some f.d ∧ o.guard = none ∧ ∀ (A : Act) (w : World), (execOp A.eval o).run Tryz.prog w = .ok (.value (f.vf w.heap.size)) (w.alloc (.cells f.cs f.t))
def FreeOks (ops : Array Oper) : List FreeD → Prop
 | [] => True
 | f :: fs => FreeOk ops f ∧ FreeOks ops fs
def apartB : List FreeD → Bool
 | [] => true
 | f :: fs => (fs.all fun g => g.i != f.i && g.d != f.d) && apartB fs
def lnB : List FreeD → List (Option Nat) → List Bx
 | f :: fs, some g :: s => (g, f.t, f.cs) :: lnB fs s
 | _ :: fs, none :: s => lnB fs s
 | _, _ => []
def lnP : List FreeD → List Bool → Array Bool → Array Bool
 | f :: fs, true :: s, l => (lnP fs s l).setIfInBounds f.i true
 | _ :: fs, false :: s, l => lnP fs s l
 | _, _, l => l
def lnA : List FreeD → List (Option Nat) → Act → Act
 | f :: fs, some g :: s, a => (lnA fs s a).put (some f.d) (f.vf g)
 | _ :: fs, none :: s, a => lnA fs s a
 | _, _, a => a
def lnN : List (Option Nat) → Nat
 | [] => 0
 | none :: s => lnN s + 1
 | some _ :: s => lnN s
def pendB : List FreeD → List Bool → Nat → Bool
 | f :: fs, true :: s, i => pendB fs s i
 | f :: fs, false :: s, i => f.i == i || pendB fs s i
 | _, _, _ => false
def pats : Nat → List (List Bool)
 | 0 => [[]]
 | n + 1 => (pats n).flatMap fun p => [true :: p, false :: p]
theorem pats_all : ∀ (p : List Bool), p ∈ pats p.length
 | [] => by simp [pats]
 | b :: p => by
  rw [List.length_cons, pats, List.mem_flatMap]
  exact ⟨p, pats_all p, by cases b <;> simp⟩
abbrev isS (s : List (Option Nat)) : List Bool := s.map Option.isSome
theorem lnP_set : ∀ (fs : List FreeD) (p : List Bool) (l : Array Bool) (c : Nat), (fs.all fun f => f.i != c) = true → (lnP fs p l).setIfInBounds c true = lnP fs p (l.setIfInBounds c true)
 | [], p, l, c, _ => by cases p <;> rfl
 | f :: fs, [], l, c, _ => rfl
 | f :: fs, true :: p, l, c, h => by
  rw [List.all_cons, Bool.and_eq_true] at h
  have h1 : f.i ≠ c := by simpa using h.1
  rw [lnP, lnP, Array.setIfInBounds_comm _ _ h1, lnP_set fs p l c h.2]
 | f :: fs, false :: p, l, c, h => by
  rw [List.all_cons, Bool.and_eq_true] at h
  rw [lnP, lnP, lnP_set fs p l c h.2]
theorem lnA_put : ∀ (fs : List FreeD) (s : List (Option Nat)) (a : Act) (d : Option Tmp) (v : Value), (fs.all fun f => d != some f.d) = true → (lnA fs s a).put d v = lnA fs s (a.put d v)
 | [], s, a, d, v, _ => by cases s <;> rfl
 | f :: fs, [], a, d, v, _ => rfl
 | f :: fs, some g :: s, a, d, v, h => by
  rw [List.all_cons, Bool.and_eq_true] at h
  have h1 : d ≠ some f.d := by simpa using h.1
  rw [lnA, lnA, ← lnA_put fs s a d v h.2]
  cases d with
  | none => rfl
  | some d => exact put_comm _ (fun e => h1 (by rw [e])) _ _
 | f :: fs, none :: s, a, d, v, h => by
  rw [List.all_cons, Bool.and_eq_true] at h
  rw [lnA, lnA, lnA_put fs s a d v h.2]
theorem lane_next {ops : Array Oper} : ∀ (fs : List FreeD), apartB fs = true → FreeOks ops fs → ∀ (s : List (Option Nat)), s.length = fs.length → ∀ (i : Nat), pendB fs (isS s) i = true →
  ∃ (f : FreeD) (s' : Nat → List (Option Nat)), f ∈ fs ∧ FreeOk ops f ∧ f.i = i ∧ ∀ g, (s' g).length = fs.length ∧ lnN s = lnN (s' g) + 1 ∧ (∀ l, (lnP fs (isS s) l).setIfInBounds f.i true = lnP fs (isS (s' g)) l) ∧ (∀ a, (lnA fs s a).put (some f.d) (f.vf g) = lnA fs (s' g) a) ∧ (lnB fs s ++ [(g, f.t, f.cs)]).Perm (lnB fs (s' g))
 | [], _, _, s, hs, i, hp => by cases s <;> cases hp
 | f :: fs, _, _, [], hs, i, hp => by simp at hs
 | f :: fs, hfa, hok, some g0 :: s, hs, i, hp => by
  rw [apartB, Bool.and_eq_true] at hfa
  obtain ⟨f', s', hm, h1, h2, h3⟩ := lane_next fs hfa.2 hok.2 s (by simpa using hs) i hp
  have hne := List.all_eq_true.1 hfa.1 f' hm
  simp only [Bool.and_eq_true, bne_iff_ne, ne_eq] at hne
  refine ⟨f', fun g => some g0 :: s' g, List.mem_cons_of_mem _ hm, h1, h2, fun g => ?_⟩
  obtain ⟨k1, k2, k3, k4, k5⟩ := h3 g
  refine ⟨by simpa using k1, k2, fun l => ?_, fun a => ?_, ?_⟩
  ·
   show ((lnP fs (isS s) l).setIfInBounds f.i true).setIfInBounds f'.i true = (lnP fs (isS (s' g)) l).setIfInBounds f.i true
   rw [Array.setIfInBounds_comm _ _ (fun e => hne.1 e.symm), k3 l]
  ·
   show ((lnA fs s a).put (some f.d) (f.vf g0)).put (some f'.d) (f'.vf g) = (lnA fs (s' g) a).put (some f.d) (f.vf g0)
   rw [put_comm _ (fun e => hne.2 e.symm), k4 a]
  ·
   exact List.Perm.cons _ k5
 | f :: fs, hfa, hok, none :: s, hs, i, hp => by
  rw [apartB, Bool.and_eq_true] at hfa
  by_cases he : f.i = i
  ·
   refine ⟨f, fun g => some g :: s, List.mem_cons_self, hok.1, he, fun g => ⟨by simpa using hs, rfl, fun l => rfl, fun a => rfl, ?_⟩⟩
   exact List.perm_append_singleton _ _
  ·
   have hp' : pendB fs (isS s) i = true := by
    have h : (f.i == i || pendB fs (isS s) i) = true := hp
    simpa [he] using h
   obtain ⟨f', s', hm, h1, h2, h3⟩ := lane_next fs hfa.2 hok.2 s (by simpa using hs) i hp'
   refine ⟨f', fun g => none :: s' g, List.mem_cons_of_mem _ hm, h1, h2, fun g => ?_⟩
   obtain ⟨k1, k2, k3, k4, k5⟩ := h3 g
   exact ⟨by simpa using k1, by show lnN s + 1 = lnN (s' g) + 1 + 1; omega, k3, k4, k5⟩
end R
open Go.RowKit R
def Lane (ops : Array Oper) (Q : Exit → Act → World → Prop) (ks : List Nat) (w0 : World) (bs0 : List Bx) (D0 : World → Prop) (bs : List Bx) (D : World → Prop) (fs : List FreeD) (n : Nat) (l : Array Bool) (a : Act) : Prop :=
 FreeOks ops fs → apartB fs = true → ∀ s : List (Option Nat), s.length = fs.length → ∀ W, Fr w0 W (bs ++ lnB fs s) D → wpAnyL Tryz.prog .any ops (Qn Q) (HoldA ks fun W => Fr w0 W bs0 D0) (n + lnN s) (lnP fs (isS s) l) (lnA fs s a) W
section
variable {ops : Array Oper} {Q : Exit → Act → World → Prop} {ks : List Nat} {w0 : World} {bs0 : List Bx} {D0 : World → Prop} {bs : List Bx} {D : World → Prop} {fs : List FreeD} {n : Nat} {l : Array Bool} {a : Act}
theorem Lane.gen {X : Type} (c : Nat) {o : Oper} (bs' : X → List Bx) (D' : X → World → Prop) (v : X → Value) (ho : ops[c]? = some o)
  (hS : ∀ W bx, Fr w0 W (bs ++ bx) D → Fr w0 W bs0 D0) (hS' : ∀ x W bx, Fr w0 W (bs' x ++ bx) (D' x) → Fr w0 W bs0 D0)
  (hready : ((pats fs.length).all fun p => (Region.ready .any ops (lnP fs p l)).contains c && (Region.ready .any ops (lnP fs p l)).all fun i => i == c || pendB fs p i) = true)
  (hcf : (fs.all fun f => f.i != c) = true) (hdf : (fs.all fun f => o.dst != some f.d) = true)
  (hc : ∀ s, s.length = fs.length → ∀ W, Fr w0 W (bs ++ lnB fs s) D → ∀ K : Act → World → Prop, (∀ x W', Fr w0 W' (bs' x ++ lnB fs s) (D' x) → K ((lnA fs s a).put o.dst (v x)) W') → if Region.wanted o (yielded ops (lnA fs s a).tmps) = true then Oper.wp Tryz.prog o (lnA fs s a) W K (Qn Q) else K ((lnA fs s a).put o.dst undef) W)
  (H : ∀ x, Lane ops Q ks w0 bs0 D0 (bs' x) (D' x) fs n (l.setIfInBounds c true) (a.put o.dst (v x))) : Lane ops Q ks w0 bs0 D0 bs D fs (n + 1) l a := by
 intro hok hap
 suffices h : ∀ (m : Nat) (s : List (Option Nat)), lnN s = m → s.length = fs.length → ∀ W, Fr w0 W (bs ++ lnB fs s) D → wpAnyL Tryz.prog .any ops (Qn Q) (HoldA ks fun W => Fr w0 W bs0 D0) (n + 1 + m) (lnP fs (isS s) l) (lnA fs s a) W from
  fun s hs W hF => h _ s rfl hs W hF
 intro m
 induction m with
 | zero =>
  intro s hm hs W hF
  have hr := List.all_eq_true.1 hready (isS s) (by have := pats_all (isS s); rwa [List.length_map, hs] at this)
  rw [Bool.and_eq_true] at hr
  refine ⟨fun h0 => by rw [h0] at hr; simp at hr, fun i hi => ?_⟩
  have hi2 := List.all_eq_true.1 hr.2 i hi
  rw [Bool.or_eq_true] at hi2
  rcases hi2 with hi2 | hi2
  ·
   obtain rfl : i = c := by simpa using hi2
   refine wpOp_step ho fun K' hK' => hc s hs W hF K' fun x W' hF' => hK' _ _ ⟨HoldA.of (hS' x W' _ hF') _, ?_⟩
   have := H x hok hap s hs W' hF'
   rw [← lnP_set fs _ _ _ hcf, ← lnA_put fs s a _ _ hdf, hm] at this
   exact this
  ·
   obtain ⟨f, s', _, _, _, hs'⟩ := lane_next fs hap hok s hs i hi2
   have := (hs' 0).2.1
   omega
 | succ m ih =>
  intro s hm hs W hF
  have hr := List.all_eq_true.1 hready (isS s) (by have := pats_all (isS s); rwa [List.length_map, hs] at this)
  rw [Bool.and_eq_true] at hr
  refine ⟨fun h0 => by rw [h0] at hr; simp at hr, fun i hi => ?_⟩
  have hi2 := List.all_eq_true.1 hr.2 i hi
  rw [Bool.or_eq_true] at hi2
  rcases hi2 with hi2 | hi2
  ·
   obtain rfl : i = c := by simpa using hi2
   refine wpOp_step ho fun K' hK' => hc s hs W hF K' fun x W' hF' => hK' _ _ ⟨HoldA.of (hS' x W' _ hF') _, ?_⟩
   have := H x hok hap s hs W' hF'
   rw [← lnP_set fs _ _ _ hcf, ← lnA_put fs s a _ _ hdf, hm, show n + (m + 1) = n + 1 + m by omega] at this
   exact this
  ·
   obtain ⟨f, s', _, ⟨o', ho', hd', hg', hrun⟩, rfl, hs'⟩ := lane_next fs hap hok s hs i hi2
   refine wpOp_step ho' fun K' hK' => ?_
   rw [if_pos (by simp [Region.wanted, hg'])]
   unfold Oper.wp
   rw [hrun]
   obtain ⟨h1, h2, h3, h4, h5⟩ := hs' W.heap.size
   have hF1 : Fr w0 (W.alloc (.cells f.cs f.t)) (bs ++ lnB fs (s' W.heap.size)) D := Fr.perm (hF.alloc f.t f.cs) (by rw [List.append_assoc]; exact List.Perm.append_left bs h5)
   refine hK' _ _ ?_
   rw [hd', h3, h4]
   refine ⟨HoldA.of (hS _ _ hF1) _, ?_⟩
   exact ih (s' W.heap.size) (by omega) h1 _ hF1
theorem lnB_none : ∀ (fs : List FreeD), lnB fs (List.replicate fs.length none) = []
 | [] => rfl
 | f :: fs => by rw [List.length_cons, List.replicate_succ, lnB, lnB_none fs]
theorem lnP_none : ∀ (fs : List FreeD) (l : Array Bool), lnP fs (isS (List.replicate fs.length none)) l = l
 | [], l => rfl
 | f :: fs, l => by rw [List.length_cons, List.replicate_succ, isS, List.map_cons, Option.isSome_none, lnP]; exact lnP_none fs l
theorem lnA_none : ∀ (fs : List FreeD) (a : Act), lnA fs (List.replicate fs.length none) a = a
 | [], a => rfl
 | f :: fs, a => by rw [List.length_cons, List.replicate_succ, lnA, lnA_none fs]
theorem lnN_none : ∀ (n : Nat), lnN (List.replicate n none) = n
 | 0 => rfl
 | n + 1 => by rw [List.replicate_succ, lnN, lnN_none n]
theorem Lane.open_ (fs : List FreeD) (n : Nat) {N : Nat} {W : World} (hok : FreeOks ops fs) (h : Lane ops Q ks w0 bs0 D0 bs D fs n l a) (hF : Fr w0 W bs D) (hN : N = n + fs.length := by rfl) (hap : apartB fs = true := by rfl) :
  wpAnyL Tryz.prog .any ops (Qn Q) (HoldA ks fun W => Fr w0 W bs0 D0) N l a W := by
 have := h hok hap (List.replicate fs.length none) (by simp) W (by rw [lnB_none, List.append_nil]; exact hF)
 rwa [lnP_none, lnA_none, lnN_none, ← hN] at this
theorem Lane.close (h : ∀ W, Fr w0 W bs D → wpAnyL Tryz.prog .any ops (Qn Q) (HoldA ks fun W => Fr w0 W bs0 D0) n l a W) : Lane ops Q ks w0 bs0 D0 bs D [] n l a := fun _ _ s hs W hF => by
 cases s with
 | nil => exact h W (by simpa [lnB] using hF)
 | cons x s => simp at hs
theorem Lane.call (c : Nat) (f : FuncId) (vs : Array Value) (v : Value) {o : Oper} (ho : ops[c]? = some o) (hg : o.guard = none)
  (hrun : ∀ s : List (Option Nat), s.length = fs.length → ∀ W, (execOp (lnA fs s a).eval o).run Tryz.prog W = .ok (.enter f vs) W)
  (hcall : ∀ W, Fr w0 W bs D → Calls Tryz.prog f vs W fun e w' => e = .returned v ∧ Below W.heap.size W w')
  (H : Lane ops Q ks w0 bs0 D0 bs D fs n (l.setIfInBounds c true) (a.put o.dst v))
  (hS : ∀ W bx, Fr w0 W (bs ++ bx) D → Fr w0 W bs0 D0 := by (intro W bx h; first | exact Fr.sub (Fr.front h) (by repeat (first | exact List.Sublist.slnil | apply List.Sublist.cons_cons | apply List.Sublist.cons)) | exact (Fr.sub (Fr.front h) (by repeat (first | exact List.Sublist.slnil | apply List.Sublist.cons_cons | apply List.Sublist.cons))).weak fun _ _ => trivial))
  (hready : ((pats fs.length).all fun p => (Region.ready .any ops (lnP fs p l)).contains c && (Region.ready .any ops (lnP fs p l)).all fun i => i == c || pendB fs p i) = true := by kernel_rfl)
  (hcf : (fs.all fun f => f.i != c) = true := by rfl) (hdf : (fs.all fun f => o.dst != some f.d) = true := by rfl) : Lane ops Q ks w0 bs0 D0 bs D fs (n + 1) l a :=
 Lane.gen (X := Unit) c (fun _ => bs) (fun _ => D) (fun _ => v) ho hS (fun _ => hS) hready hcf hdf (fun s hs W hF K hK => by
  rw [if_pos (by simp [Region.wanted, hg])]
  unfold Oper.wp
  rw [hrun s hs W]
  refine (hcall W (Fr.front hF)).mono fun e w' h => ?_
  obtain ⟨rfl, hb⟩ := h
  exact hK () w' (hF.call hb)) (fun _ => H)
theorem Lane.val (c : Nat) (v : Value) {o : Oper} (ho : ops[c]? = some o) (hg : o.guard = none)
  (hrun : ∀ s : List (Option Nat), s.length = fs.length → ∀ W, Fr w0 W bs D → (execOp (lnA fs s a).eval o).run Tryz.prog W = .ok (.value v) W)
  (H : Lane ops Q ks w0 bs0 D0 bs D fs n (l.setIfInBounds c true) (a.put o.dst v))
  (hS : ∀ W bx, Fr w0 W (bs ++ bx) D → Fr w0 W bs0 D0 := by (intro W bx h; first | exact Fr.sub (Fr.front h) (by repeat (first | exact List.Sublist.slnil | apply List.Sublist.cons_cons | apply List.Sublist.cons)) | exact (Fr.sub (Fr.front h) (by repeat (first | exact List.Sublist.slnil | apply List.Sublist.cons_cons | apply List.Sublist.cons))).weak fun _ _ => trivial))
  (hready : ((pats fs.length).all fun p => (Region.ready .any ops (lnP fs p l)).contains c && (Region.ready .any ops (lnP fs p l)).all fun i => i == c || pendB fs p i) = true := by kernel_rfl)
  (hcf : (fs.all fun f => f.i != c) = true := by rfl) (hdf : (fs.all fun f => o.dst != some f.d) = true := by rfl) : Lane ops Q ks w0 bs0 D0 bs D fs (n + 1) l a :=
 Lane.gen (X := Unit) c (fun _ => bs) (fun _ => D) (fun _ => v) ho hS (fun _ => hS) hready hcf hdf (fun s hs W hF K hK => by
  rw [if_pos (by simp [Region.wanted, hg])]
  exact wp_val (hrun s hs W (Fr.front hF)) (hK () W hF)) (fun _ => H)
theorem Lane.make (c : Nat) (t : TypeId) (cs : Array Value) (mk : Nat → Value) {o : Oper} (ho : ops[c]? = some o) (hg : o.guard = none)
  (hrun : ∀ s : List (Option Nat), s.length = fs.length → ∀ W, (execOp (lnA fs s a).eval o).run Tryz.prog W = .ok (.value (mk W.heap.size)) (W.alloc (.cells cs t)))
  (H : ∀ g, Lane ops Q ks w0 bs0 D0 (bs ++ [(g, t, cs)]) D fs n (l.setIfInBounds c true) (a.put o.dst (mk g)))
  (hS : ∀ W bx, Fr w0 W (bs ++ bx) D → Fr w0 W bs0 D0 := by (intro W bx h; first | exact Fr.sub (Fr.front h) (by repeat (first | exact List.Sublist.slnil | apply List.Sublist.cons_cons | apply List.Sublist.cons)) | exact (Fr.sub (Fr.front h) (by repeat (first | exact List.Sublist.slnil | apply List.Sublist.cons_cons | apply List.Sublist.cons))).weak fun _ _ => trivial))
  (hready : ((pats fs.length).all fun p => (Region.ready .any ops (lnP fs p l)).contains c && (Region.ready .any ops (lnP fs p l)).all fun i => i == c || pendB fs p i) = true := by kernel_rfl)
  (hcf : (fs.all fun f => f.i != c) = true := by rfl) (hdf : (fs.all fun f => o.dst != some f.d) = true := by rfl) : Lane ops Q ks w0 bs0 D0 bs D fs (n + 1) l a :=
 Lane.gen (X := Nat) c (fun g => bs ++ [(g, t, cs)]) (fun _ => D) mk ho hS (fun g W bx h => hS W ([(g, t, cs)] ++ bx) (by rw [← List.append_assoc]; exact h)) hready hcf hdf (fun s hs W hF K hK => by
  rw [if_pos (by simp [Region.wanted, hg])]
  unfold Oper.wp
  rw [hrun s hs W]
  refine hK W.heap.size _ (Fr.perm (hF.alloc t cs) ?_)
  rw [List.append_assoc, List.append_assoc]
  exact List.Perm.append_left bs List.perm_append_comm) H
theorem Lane.force {f : FreeD} (H : ∀ g, Lane ops Q ks w0 bs0 D0 (bs ++ [(g, f.t, f.cs)]) D fs n (l.setIfInBounds f.i true) (a.put (some f.d) (f.vf g)))
  (hS : ∀ W bx, Fr w0 W (bs ++ bx) D → Fr w0 W bs0 D0 := by (intro W bx h; first | exact Fr.sub (Fr.front h) (by repeat (first | exact List.Sublist.slnil | apply List.Sublist.cons_cons | apply List.Sublist.cons)) | exact (Fr.sub (Fr.front h) (by repeat (first | exact List.Sublist.slnil | apply List.Sublist.cons_cons | apply List.Sublist.cons))).weak fun _ _ => trivial))
  (hready : ((pats fs.length).all fun p => (Region.ready .any ops (lnP fs p l)).contains f.i && (Region.ready .any ops (lnP fs p l)).all fun i => i == f.i || pendB fs p i) = true := by kernel_rfl) : Lane ops Q ks w0 bs0 D0 bs D (f :: fs) n l a := by
 intro hok hap s hs W hF
 have hap' := hap
 rw [apartB, Bool.and_eq_true, List.all_eq_true] at hap'
 have h1 : (fs.all fun g => g.i != f.i) = true := List.all_eq_true.2 fun g hg => by have := hap'.1 g hg; rw [Bool.and_eq_true] at this; exact this.1
 have h2 : (fs.all fun g => some f.d != some g.d) = true := List.all_eq_true.2 fun g hg => by
  have := hap'.1 g hg
  rw [Bool.and_eq_true, bne_iff_ne, bne_iff_ne] at this
  rw [bne_iff_ne]
  exact fun e => this.2 (by injection e with e; exact e.symm)
 cases s with
 | nil => simp at hs
 | cons x s =>
  cases x with
  | some g =>
   have := H g hok.2 hap'.2 s (by simpa using hs) W (by rw [List.append_assoc]; exact hF)
   rw [← lnP_set fs _ _ _ h1, ← lnA_put fs s a _ _ h2] at this
   exact this
  | none =>
   obtain ⟨o, ho, hd, hg, hrun⟩ := hok.1
   have hL : Lane ops Q ks w0 bs0 D0 bs D fs (n + 1) l a := Lane.make f.i f.t f.cs f.vf ho hg (fun s hs W => hrun _ W) (by rw [hd]; exact H) hS hready h1 (by rw [hd]; exact h2)
   have := hL hok.2 hap'.2 s (by simpa using hs) W hF
   rw [show n + 1 + lnN s = n + lnN (none :: s) by show n + 1 + lnN s = n + (lnN s + 1); omega] at this
   exact this
end
end Go.Proofs.YtnhjgocdepbajaaGreat
