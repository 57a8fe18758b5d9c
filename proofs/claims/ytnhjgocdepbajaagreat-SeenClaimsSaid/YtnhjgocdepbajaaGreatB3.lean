/- countersignlaw20.Base. No condition of its own. -/
import Derived.Test.YtnhjgocdepbajaaGreatXb
set_option linter.unusedVariables false
set_option linter.unusedSimpArgs false
set_option maxRecDepth 20000
namespace Go.Proofs.YtnhjgocdepbajaaGreat
open Go.RowKit S19 C17 R
def tC1 : List UInt8 := [99, 49]
def tC2 : List UInt8 := [99, 50]
def tPub : List UInt8 := [112, 117, 98]
def uC1 : List UInt8 := [104, 116, 116, 112, 115, 58, 47, 47, 99, 49, 47, 99, 98]
def uC1b : List UInt8 := [104, 116, 116, 112, 115, 58, 47, 47, 99, 49, 47, 116, 119, 111]
def uC2 : List UInt8 := [104, 116, 116, 112, 115, 58, 47, 47, 99, 50, 47, 99, 98]
def uPub : List UInt8 := [104, 116, 116, 112, 115, 58, 47, 47, 112, 117, 98, 47, 99, 98]
def sOpenid : List UInt8 := [111, 112, 101, 110, 105, 100]
def sProf : List UInt8 := [111, 112, 101, 110, 105, 100, 32, 112, 114, 111, 102, 105, 108, 101]
def sAop : List UInt8 := [97, 32, 111, 112, 101, 110, 105, 100]
def baseCl (m : Nat) : List Cl := [⟨tC1, 4, [uC1, uC1b], sProf, some ⟨m + 1 + 1, 0, none⟩, 2⟩, ⟨tC2, 5, [uC2], sAop, some ⟨m + 1 + 1 + 1, 0, none⟩, 1⟩, ⟨tPub, 0, [uPub], sOpenid, some ⟨m + 1 + 1 + 1 + 1, 0, none⟩, 1⟩]
def baseUs : List UsP := [⟨[97, 108, 105, 99, 101], 10⟩, ⟨[98, 111, 98], 11⟩]
def bs0 : Bs := ⟨[97, 115], 1, [⟨tC1, 4, [uC1, uC1b], sProf⟩, ⟨tC2, 5, [uC2], sAop⟩, ⟨tPub, 0, [uPub], sOpenid⟩], baseUs⟩
def sr0 : Sr := ⟨100, 1, 0⟩
def baseSt (m : Nat) : Array Value := stA bs0.nm bs0.key (some ⟨m + 1 + 1 + 1 + 1 + 1, 0, none⟩) 3 3 (some ⟨m + 1 + 1 + 1 + 1 + 1 + 1, 0, none⟩) 2 2 none 0 0
def baseW (w : World) : World := ((((((w.alloc (.cells (baseSt w.heap.size) 31)).alloc (.cells sr0.arr 33)).alloc (.cells (strVs [uC1, uC1b]).toArray 9)).alloc (.cells (strVs [uC2]).toArray 9)).alloc (.cells (strVs [uPub]).toArray 9)).alloc (.cells (cCells (baseCl w.heap.size)).toArray 67)).alloc (.cells (uCells baseUs).toArray 65)
theorem base_fr (w : World) : Fr w (baseW w) [(w.heap.size, 31, baseSt w.heap.size), (w.heap.size + 1, 33, sr0.arr), (w.heap.size + 1 + 1, 9, (strVs [uC1, uC1b]).toArray), (w.heap.size + 1 + 1 + 1, 9, (strVs [uC2]).toArray),
  (w.heap.size + 1 + 1 + 1 + 1, 9, (strVs [uPub]).toArray), (w.heap.size + 1 + 1 + 1 + 1 + 1, 67, (cCells (baseCl w.heap.size)).toArray), (w.heap.size + 1 + 1 + 1 + 1 + 1 + 1, 65, (uCells baseUs).toArray)] (fun _ => True) := by
 have h := (((((((Fr.nil w).alloc 31 (baseSt w.heap.size)).alloc 33 sr0.arr).alloc 9 (strVs [uC1, uC1b]).toArray).alloc 9 (strVs [uC2]).toArray).alloc 9 (strVs [uPub]).toArray).alloc 67 (cCells (baseCl w.heap.size)).toArray).alloc 65 (uCells baseUs).toArray
 simp only [nf, World.size_alloc] at h
 exact h
end Go.Proofs.YtnhjgocdepbajaaGreat
/- countersignlaw20.within, Verifier, Right. No condition of its own. -/
set_option linter.unusedVariables false
set_option linter.unusedSimpArgs false
set_option maxRecDepth 20000
namespace Go.Proofs.YtnhjgocdepbajaaGreat
open Go.RowKit S19 C17 R
theorem within20_walk (z n : Int) (w : World) (hn : 1 ≤ n) (hn2 : n ≤ 9223372036854775807) (hz : -9223372036854775808 ≤ z ∧ z ≤ 9223372036854775807) :
  Calls Tryz.prog 59 #[.int .i64 z, .int .i64 n] w fun e w' => e = .returned (.int .i64 (z % n)) ∧ w = w' := by
 have h0 := Int.emod_nonneg z (show n ≠ 0 by omega)
 have h1 := Int.emod_lt_of_pos z (show 0 < n by omega)
 obtain ⟨hz1, hz2⟩ := hz
 by_cases h : 0 ≤ z
 ·
  go_enter Tryz.func59, Tryz.ntmps59
  go_wp2_with fail
  go_ret
  exact ⟨rfl, rfl⟩
 ·
  obtain ⟨r, er⟩ : ∃ r, z.tmod n = r := ⟨_, rfl⟩
  have hr : r = z % n ∧ r = 0 ∨ r = z % n - n ∧ r < 0 := by
   rw [← er, Int.tmod_eq_emod]
   by_cases hd : n ∣ z
   ·
    left
    have := Int.emod_eq_zero_of_dvd hd
    simp [hd]; omega
   ·
    right
    simp only [hd, or_false, h, if_false]
    omega
  rcases hr with ⟨e1, e2⟩ | ⟨e1, e2⟩
  ·
   have E := Lib.hid e1
   have hr0 : ¬ r < 0 := by omega
   have hz0 : z % n = 0 := by omega
   have hr0' : r = 0 := e2
   subst hr0'
   have HZ := Lib.hid hz0
   clear e1 hz0 h0 h1 e2
   go_enter Tryz.func59, Tryz.ntmps59
   go_wp2_with fail
   go_ret
   exact ⟨by rw [HZ.out]; rfl, rfl⟩
  ·
   have E : Hid (r + n = z % n) := by show _ = _; omega
   have hr1 : -n ≤ r := by omega
   clear e1 h0 h1
   go_enter Tryz.func59, Tryz.ntmps59
   go_wp2_with fail
   go_ret
   exact ⟨by rw [← E.out]; rfl, rfl⟩
def verN (n : Int) : Int := 30 + n % 3
theorem key_size (n : Int) : (K9.keyL n).length ≤ 131460 := K9.mark_le _
theorem verifier_walk (n : Int) (w : World) (hn : -1000000000000 ≤ n ∧ n ≤ 1000000000000) :
  Calls Tryz.prog 54 #[.int .i64 n] w fun e w' => e = .returned (.string ⟨(K9.keyL (verN n)).toArray⟩) ∧ Below w.heap.size w w' := by
 have hF := Fr.nil w
 have cw := Lib.hid (fun W => within20_walk n 3 W (by omega) (by omega) (by omega))
 have h0 := Int.emod_nonneg n (show (3 : Int) ≠ 0 by omega)
 have h1 := Int.emod_lt_of_pos n (show (0 : Int) < 3 by omega)
 have HV : Hid (verN n = 30 + n % 3) := rfl
 generalize n % 3 = m at *
 have cky := Lib.hid (fun W => K9.key_walk (30 + m) W)
 go_enter Tryz.func54, Tryz.ntmps54
 go_wp2_with (first
  | go_skip
  | (refine aA rfl rfl hF ?_; clear hF; intro gg ww hF; simp only [nf] at hF)
  | (refine aB rfl rfl hF rfl ?_; clear hF; intro gg ww hF; simp only [nf] at hF)
  | (refine iL (t := 3) hF rfl rfl fun ho hx hb => ?_; refine aC (v := .int _ _) ho hb hx hF rfl rfl ?_; clear ho hx hb)
  | (refine iL hF rfl rfl fun ho hx hb => ?_; (first | refine aL ho hb hx hF rfl rfl ?_ | refine aC (v := .slice _ _ _) ho hb hx hF rfl rfl ?_ | refine aC (v := .string _) ho hb hx hF rfl rfl ?_ | refine aC (v := .bool _) ho hb hx hF rfl rfl ?_); clear ho hx hb)
  | (refine iS hF rfl rfl fun ho hx hb => ?_; (first | refine aS ho hb hx hF rfl rfl rfl rfl ?_ | refine aT (v := .int _ _) ho hb hx hF rfl rfl rfl rfl ?_ | refine aT (v := .slice _ _ _) ho hb hx hF rfl rfl rfl rfl ?_ | refine aT (v := .bool _) ho hb hx hF rfl rfl rfl rfl ?_); clear ho hx hb hF; intro ww hF; simp only [nf] at hF)
  )
 refine (cw.out _).mono ?_
 rintro _ w1 ⟨rfl, rfl⟩
 go_wp2_with (first
  | go_skip
  | (refine aA rfl rfl hF ?_; clear hF; intro gg ww hF; simp only [nf] at hF)
  | (refine aB rfl rfl hF rfl ?_; clear hF; intro gg ww hF; simp only [nf] at hF)
  | (refine iL (t := 3) hF rfl rfl fun ho hx hb => ?_; refine aC (v := .int _ _) ho hb hx hF rfl rfl ?_; clear ho hx hb)
  | (refine iL hF rfl rfl fun ho hx hb => ?_; (first | refine aL ho hb hx hF rfl rfl ?_ | refine aC (v := .slice _ _ _) ho hb hx hF rfl rfl ?_ | refine aC (v := .string _) ho hb hx hF rfl rfl ?_ | refine aC (v := .bool _) ho hb hx hF rfl rfl ?_); clear ho hx hb)
  | (refine iS hF rfl rfl fun ho hx hb => ?_; (first | refine aS ho hb hx hF rfl rfl rfl rfl ?_ | refine aT (v := .int _ _) ho hb hx hF rfl rfl rfl rfl ?_ | refine aT (v := .slice _ _ _) ho hb hx hF rfl rfl rfl rfl ?_ | refine aT (v := .bool _) ho hb hx hF rfl rfl rfl rfl ?_); clear ho hx hb hF; intro ww hF; simp only [nf] at hF)
  )
 refine (cky.out _).mono ?_
 rintro _ w2 ⟨rfl, hbn⟩
 replace hF := hF.call hbn
 go_wp2_with (first
  | go_skip
  | (refine aA rfl rfl hF ?_; clear hF; intro gg ww hF; simp only [nf] at hF)
  | (refine aB rfl rfl hF rfl ?_; clear hF; intro gg ww hF; simp only [nf] at hF)
  | (refine iL (t := 3) hF rfl rfl fun ho hx hb => ?_; refine aC (v := .int _ _) ho hb hx hF rfl rfl ?_; clear ho hx hb)
  | (refine iL hF rfl rfl fun ho hx hb => ?_; (first | refine aL ho hb hx hF rfl rfl ?_ | refine aC (v := .slice _ _ _) ho hb hx hF rfl rfl ?_ | refine aC (v := .string _) ho hb hx hF rfl rfl ?_ | refine aC (v := .bool _) ho hb hx hF rfl rfl ?_); clear ho hx hb)
  | (refine iS hF rfl rfl fun ho hx hb => ?_; (first | refine aS ho hb hx hF rfl rfl rfl rfl ?_ | refine aT (v := .int _ _) ho hb hx hF rfl rfl rfl rfl ?_ | refine aT (v := .slice _ _ _) ho hb hx hF rfl rfl rfl rfl ?_ | refine aT (v := .bool _) ho hb hx hF rfl rfl rfl rfl ?_); clear ho hx hb hF; intro ww hF; simp only [nf] at hF)
  )
 go_ret
 exact ⟨by rw [HV.out]; rfl, hF.below⟩
end Go.Proofs.YtnhjgocdepbajaaGreat
/- countersignlaw20.Right. No condition of its own. Printed by wip/tools/genXk.py. -/
set_option linter.unusedVariables false
set_option linter.unusedSimpArgs false
set_option maxRecDepth 20000
namespace Go.Proofs.YtnhjgocdepbajaaGreat
open Go.RowKit S19 C17 R
def redL : List ByteArray := [⟨uC1.toArray⟩, ⟨uC2.toArray⟩, ⟨uPub.toArray⟩]
def redI (n : Int) : ByteArray := redL.getD ((n - 1) % 3).toNat ⟨#[]⟩
def chalN (n : Int) : List UInt8 := K9.markT (K9.hashT (verN n))
def rightW (n : Int) : Wt := ⟨⟨#[99, 111, 100, 101]⟩, redI n, ⟨#[111, 112, 101, 110, 105, 100]⟩, ⟨#[115]⟩ ++ ⟨(K9.keyL n).toArray⟩, ⟨#[110]⟩, ⟨(chalN n).toArray⟩, ⟨#[83, 50, 53, 54]⟩⟩
theorem exec_at {op : Oper} {a : Act} {w : World} {t' : TypeId} {x : Operand} {ad : Addr} {v : Value} [hs : OneIs t'] (ho : op.op = .load t' x) (hx : a.eval x = .pointer (some ad)) (hc : w.cell? ad = some v) : (execOp a.eval op).run Tryz.prog w = .ok (.value v) w := by
 obtain ⟨d, hu, hd⟩ := hs.d
 have ha : (isAgg t').run Tryz.prog w = .ok false w := by
  unfold isAgg
  rw [Sem.run_bind, run_underlying hu w]
  cases d <;> first | rfl | cases hd
 unfold execOp
 simp only [ho, hx, Instr.loadAt, Instr.sureAddr, Sem.run_bind, Sem.run_pure, Result.andThen_ok, loadVar, ha]
 simp [run_load, hc]
theorem rchal_str (n : Int) (w : World) (hn : 0 ≤ n ∧ n ≤ 1000000) : Calls Tryz.prog 58 #[.string ⟨(K9.keyL n).toArray⟩] w fun e w' => e = .returned (.tuple #[.string ⟨(K9.markT (K9.hashT n)).toArray⟩, .bool true]) ∧ Below w.heap.size w w' := by
 obtain ⟨m, rfl⟩ : ∃ m : Nat, n = (m : Int) := ⟨n.toNat, by omega⟩
 have h := K9.rchal_walk ⟨(K9.keyL (m : Int)).toArray⟩ (K9.keyL (m : Int)) (by simp) w (by rw [size_mks]; have := key_size (m : Int); omega)
 rw [K9.chal_key m (by omega)] at h
 exact h
theorem red_cell {w : World} {g j : Nat} {t : TypeId} (h : Blk w g t #[.string ⟨uC1.toArray⟩, .string ⟨uC2.toArray⟩, .string ⟨uPub.toArray⟩]) (hj : j < 3) : w.cell? ⟨g, j, none⟩ = some (.string (redL.getD j ⟨#[]⟩)) := by
 rw [h.cell]
 rcases (by omega : j = 0 ∨ j = 1 ∨ j = 2) with rfl | rfl | rfl <;> rfl
set_option maxHeartbeats 8000000 in
theorem right_walk (n : Int) (w : World) (hn : -1000000000 ≤ n ∧ n ≤ 1000000000) :
  Calls Tryz.prog 25 #[.int .i64 n] w fun e w' => e = .returned (.agg (rightW n).arr) ∧ Below w.heap.size w w' := by
 have hF := Fr.nil w
 have cv := Lib.hid (fun W => verifier_walk n W (by omega))
 have h0 := Int.emod_nonneg n (show (3 : Int) ≠ 0 by omega)
 have h1 := Int.emod_lt_of_pos n (show (0 : Int) < 3 by omega)
 have cch := Lib.hid (fun W => rchal_str (verN n) W (by unfold verN; omega))
 have cw := Lib.hid (fun W => within20_walk (n - 1) 3 W (by omega) (by omega) (by omega))
 have g0 := Int.emod_nonneg (n - 1) (show (3 : Int) ≠ 0 by omega)
 have g1 := Int.emod_lt_of_pos (n - 1) (show (0 : Int) < 3 by omega)
 obtain ⟨j, hj⟩ : ∃ j : Nat, (n - 1) % 3 = (j : Int) := ⟨((n - 1) % 3).toNat, by omega⟩
 have hj3 : j < 3 := by omega
 have hri : redI n = redL.getD j ⟨#[]⟩ := by rw [redI, hj, Int.toNat_natCast]
 rw [hj] at cw
 have cky := Lib.hid (fun W => K9.key_walk n W)
 have hks := key_size n
 have HV : Hid ((rightW n).arr = #[.string ⟨#[99, 111, 100, 101]⟩, .string (redL.getD j ⟨#[]⟩), .string ⟨#[111, 112, 101, 110, 105, 100]⟩, .string (⟨#[115]⟩ ++ ⟨(K9.keyL n).toArray⟩), .string ⟨#[110]⟩, .string ⟨(K9.markT (K9.hashT (verN n))).toArray⟩, .string ⟨#[83, 50, 53, 54]⟩]) := by
  show _ = _
  rw [← hri]
  rfl
 have hwr : IntKind.i64.wrap (n - 1) = n - 1 := by rw [IntKind.wrap_i64]; omega
 have hwj : IntKind.i64.wrap (j : Int) = (j : Int) := by rw [IntKind.wrap_i64]; omega
 have hj4 : (j : Int) < 3 := by omega
 generalize hkb : (⟨(K9.keyL n).toArray⟩ : ByteArray) = kb at cky HV
 have hkz : ¬ 9223372036854775807 < 1 + kb.size := by rw [← hkb, size_mks]; omega
 generalize (⟨(K9.markT (K9.hashT (verN n))).toArray⟩ : ByteArray) = ch at cch HV
 have HR := Lib.hid (fun W g (h : Blk W g 9 #[.string ⟨uC1.toArray⟩, .string ⟨uC2.toArray⟩, .string ⟨uPub.toArray⟩]) => red_cell h hj3)
 generalize redL.getD j ⟨#[]⟩ = rd at HV HR
 clear h0 h1 g0 g1 hj hri hks hkb
 go_enter Tryz.func25, Tryz.ntmps25
 go_wp2_with (first
  | go_skip
  | (refine aA rfl rfl hF ?_; clear hF; intro gg ww hF; simp only [nf] at hF)
  | (refine aB rfl rfl hF rfl ?_; clear hF; intro gg ww hF; simp only [nf] at hF)
  | (refine iL (t := 3) hF rfl rfl fun ho hx hb => ?_; refine aC (v := .int _ _) ho hb hx hF rfl rfl ?_; clear ho hx hb)
  | (refine iL hF rfl rfl fun ho hx hb => ?_; (first | refine aL ho hb hx hF rfl rfl ?_ | refine aC (v := .slice _ _ _) ho hb hx hF rfl rfl ?_ | refine aC (v := .string _) ho hb hx hF rfl rfl ?_ | refine aC (v := .bool _) ho hb hx hF rfl rfl ?_); clear ho hx hb)
  | (refine iS hF rfl rfl fun ho hx hb => ?_; (first | refine aS ho hb hx hF rfl rfl rfl rfl ?_ | refine aT (v := .int _ _) ho hb hx hF rfl rfl rfl rfl ?_ | refine aT (v := .slice _ _ _) ho hb hx hF rfl rfl rfl rfl ?_ | refine aT (v := .bool _) ho hb hx hF rfl rfl rfl rfl ?_); clear ho hx hb hF; intro ww hF; simp only [nf] at hF)
  )
 refine (cv.out _).mono ?_
 rintro _ w1 ⟨rfl, hbn⟩
 replace hF := hF.call hbn
 clear hbn
 go_wp2_with (first
  | go_skip
  | (refine aA rfl rfl hF ?_; clear hF; intro gg ww hF; simp only [nf] at hF)
  | (refine aB rfl rfl hF rfl ?_; clear hF; intro gg ww hF; simp only [nf] at hF)
  | (refine iL (t := 3) hF rfl rfl fun ho hx hb => ?_; refine aC (v := .int _ _) ho hb hx hF rfl rfl ?_; clear ho hx hb)
  | (refine iL hF rfl rfl fun ho hx hb => ?_; (first | refine aL ho hb hx hF rfl rfl ?_ | refine aC (v := .slice _ _ _) ho hb hx hF rfl rfl ?_ | refine aC (v := .string _) ho hb hx hF rfl rfl ?_ | refine aC (v := .bool _) ho hb hx hF rfl rfl ?_); clear ho hx hb)
  | (refine iS hF rfl rfl fun ho hx hb => ?_; (first | refine aS ho hb hx hF rfl rfl rfl rfl ?_ | refine aT (v := .int _ _) ho hb hx hF rfl rfl rfl rfl ?_ | refine aT (v := .slice _ _ _) ho hb hx hF rfl rfl rfl rfl ?_ | refine aT (v := .bool _) ho hb hx hF rfl rfl rfl rfl ?_); clear ho hx hb hF; intro ww hF; simp only [nf] at hF)
  )
 refine (cch.out _).mono ?_
 rintro _ w2 ⟨rfl, hbn⟩
 replace hF := hF.call hbn
 clear hbn
 go_wp2_with (first
  | go_skip
  | (refine aA rfl rfl hF ?_; clear hF; intro gg ww hF; simp only [nf] at hF)
  | (refine aB rfl rfl hF rfl ?_; clear hF; intro gg ww hF; simp only [nf] at hF)
  | (refine iL (t := 3) hF rfl rfl fun ho hx hb => ?_; refine aC (v := .int _ _) ho hb hx hF rfl rfl ?_; clear ho hx hb)
  | (refine iL hF rfl rfl fun ho hx hb => ?_; (first | refine aL ho hb hx hF rfl rfl ?_ | refine aC (v := .slice _ _ _) ho hb hx hF rfl rfl ?_ | refine aC (v := .string _) ho hb hx hF rfl rfl ?_ | refine aC (v := .bool _) ho hb hx hF rfl rfl ?_); clear ho hx hb)
  | (refine iS hF rfl rfl fun ho hx hb => ?_; (first | refine aS ho hb hx hF rfl rfl rfl rfl ?_ | refine aT (v := .int _ _) ho hb hx hF rfl rfl rfl rfl ?_ | refine aT (v := .slice _ _ _) ho hb hx hF rfl rfl rfl rfl ?_ | refine aT (v := .bool _) ho hb hx hF rfl rfl rfl rfl ?_); clear ho hx hb hF; intro ww hF; simp only [nf] at hF)
  )
 refine rgw [] [] hF (List.nil_sublist _) fun hF => ?_
 generalize w2.drew = W0 at hF ⊢
 refine tkf 1 rfl ?_
 try simp only [nrm, Act.put]
 refine tkf 2 rfl ?_
 try simp only [nrm, Act.put]
 refine tkf 6 rfl ?_
 try simp only [nrm, Act.put]
 refine tkf 9 rfl ?_
 try simp only [nrm, Act.put]
 refine wpAnyL_ready (rs := [0, 3]) (by kernel_rfl) (by simp) (AllReadyL.cons rfl (fun K hK => ?_) (AllReadyL.cons rfl (fun K hK => ?_) AllReadyL.nil))
 ·
  go_simp
  replace hF := hF.alloc 9 #[.string ⟨uC1.toArray⟩, .string ⟨uC2.toArray⟩, .string ⟨uPub.toArray⟩]
  simp only [nf] at hF
  refine hK.out _ _ (.of (hF.sub (List.nil_sublist _)) _) (fun _ => ?_)
  clear hK K
  try simp only [nrm, Act.put]
  refine wpAnyL_ready (rs := [3]) (by kernel_rfl) (by simp) (AllReadyL.cons rfl (fun K hK => ?_) AllReadyL.nil)
  go_simp
  go_at_call 59
  with_reducible refine (cw.out _).mono ?_
  rintro _ ww ⟨rfl, rfl⟩
  refine hK.out _ _ (.of (hF.sub (List.nil_sublist _)) _) (fun _ => ?_)
  clear hK K
  try simp only [nrm, Act.put]
  refine tkf 4 rfl ?_
  try simp only [nrm, Act.put]
  refine wpAnyL_ready (rs := [5, 7]) (by kernel_rfl) (by simp) (AllReadyL.cons rfl (fun K hK => ?_) (AllReadyL.cons rfl (fun K hK => ?_) AllReadyL.nil))
  ·
   rw [if_pos (by rfl)]
   refine wp_val (exec_at (t' := 9) rfl rfl (HR.out _ _ (hF.blk 1 _ rfl).2)) ?_
   refine hK.out _ _ (.of (hF.sub (List.nil_sublist _)) _) (fun _ => ?_)
   clear hK K
   try simp only [nrm, Act.put]
   refine wpAnyL_ready (rs := [7]) (by kernel_rfl) (by simp) (AllReadyL.cons rfl (fun K hK => ?_) AllReadyL.nil)
   go_simp
   go_at_call 60
   with_reducible refine (cky.out _).mono ?_
   rintro _ ww ⟨rfl, hbn⟩
   replace hF := hF.call hbn
   clear hbn
   refine hK.out _ _ (.of (hF.sub (List.nil_sublist _)) _) (fun _ => ?_)
   clear hK K
   try simp only [nrm, Act.put]
   refine tkf 8 rfl ?_
   try simp only [nrm, Act.put]
   refine tkf 10 rfl ?_
   try simp only [nrm, Act.put]
   refine stw 11 0 hF rfl rfl rfl rfl rfl rfl rfl rfl ?_
   clear hF; intro ww hF; simp only [nf] at hF
   try simp only [nrm, Act.put]
   refine dnw ?_
   go_wp2_with (first
    | go_skip
    | (refine aA rfl rfl hF ?_; clear hF; intro gg ww hF; simp only [nf] at hF)
    | (refine aB rfl rfl hF rfl ?_; clear hF; intro gg ww hF; simp only [nf] at hF)
    | (refine iL (t := 3) hF rfl rfl fun ho hx hb => ?_; refine aC (v := .int _ _) ho hb hx hF rfl rfl ?_; clear ho hx hb)
    | (refine iL hF rfl rfl fun ho hx hb => ?_; (first | refine aL ho hb hx hF rfl rfl ?_ | refine aC (v := .slice _ _ _) ho hb hx hF rfl rfl ?_ | refine aC (v := .string _) ho hb hx hF rfl rfl ?_ | refine aC (v := .bool _) ho hb hx hF rfl rfl ?_); clear ho hx hb)
    | (refine iS hF rfl rfl fun ho hx hb => ?_; (first | refine aS ho hb hx hF rfl rfl rfl rfl ?_ | refine aT (v := .int _ _) ho hb hx hF rfl rfl rfl rfl ?_ | refine aT (v := .slice _ _ _) ho hb hx hF rfl rfl rfl rfl ?_ | refine aT (v := .bool _) ho hb hx hF rfl rfl rfl rfl ?_); clear ho hx hb hF; intro ww hF; simp only [nf] at hF)
    )
   refine bodyPost_ret (results1 Tryz.results25 (res_cell 0 hF rfl rfl rfl)) rfl ⟨by rw [HV.out], hF.below⟩
  ·
   go_simp
   go_at_call 60
   with_reducible refine (cky.out _).mono ?_
   rintro _ ww ⟨rfl, hbn⟩
   replace hF := hF.call hbn
   clear hbn
   refine hK.out _ _ (.of (hF.sub (List.nil_sublist _)) _) (fun _ => ?_)
   clear hK K
   try simp only [nrm, Act.put]
   refine tkf 8 rfl ?_
   try simp only [nrm, Act.put]
   refine wpAnyL_ready (rs := [5]) (by kernel_rfl) (by simp) (AllReadyL.cons rfl (fun K hK => ?_) AllReadyL.nil)
   rw [if_pos (by rfl)]
   refine wp_val (exec_at (t' := 9) rfl rfl (HR.out _ _ (hF.blk 1 _ rfl).2)) ?_
   refine hK.out _ _ (.of (hF.sub (List.nil_sublist _)) _) (fun _ => ?_)
   clear hK K
   try simp only [nrm, Act.put]
   refine tkf 10 rfl ?_
   try simp only [nrm, Act.put]
   refine stw 11 0 hF rfl rfl rfl rfl rfl rfl rfl rfl ?_
   clear hF; intro ww hF; simp only [nf] at hF
   try simp only [nrm, Act.put]
   refine dnw ?_
   go_wp2_with (first
    | go_skip
    | (refine aA rfl rfl hF ?_; clear hF; intro gg ww hF; simp only [nf] at hF)
    | (refine aB rfl rfl hF rfl ?_; clear hF; intro gg ww hF; simp only [nf] at hF)
    | (refine iL (t := 3) hF rfl rfl fun ho hx hb => ?_; refine aC (v := .int _ _) ho hb hx hF rfl rfl ?_; clear ho hx hb)
    | (refine iL hF rfl rfl fun ho hx hb => ?_; (first | refine aL ho hb hx hF rfl rfl ?_ | refine aC (v := .slice _ _ _) ho hb hx hF rfl rfl ?_ | refine aC (v := .string _) ho hb hx hF rfl rfl ?_ | refine aC (v := .bool _) ho hb hx hF rfl rfl ?_); clear ho hx hb)
    | (refine iS hF rfl rfl fun ho hx hb => ?_; (first | refine aS ho hb hx hF rfl rfl rfl rfl ?_ | refine aT (v := .int _ _) ho hb hx hF rfl rfl rfl rfl ?_ | refine aT (v := .slice _ _ _) ho hb hx hF rfl rfl rfl rfl ?_ | refine aT (v := .bool _) ho hb hx hF rfl rfl rfl rfl ?_); clear ho hx hb hF; intro ww hF; simp only [nf] at hF)
    )
   refine bodyPost_ret (results1 Tryz.results25 (res_cell 0 hF rfl rfl rfl)) rfl ⟨by rw [HV.out], hF.below⟩
 ·
  go_simp
  go_at_call 59
  with_reducible refine (cw.out _).mono ?_
  rintro _ ww ⟨rfl, rfl⟩
  refine hK.out _ _ (.of (hF.sub (List.nil_sublist _)) _) (fun _ => ?_)
  clear hK K
  try simp only [nrm, Act.put]
  refine wpAnyL_ready (rs := [0, 7]) (by kernel_rfl) (by simp) (AllReadyL.cons rfl (fun K hK => ?_) (AllReadyL.cons rfl (fun K hK => ?_) AllReadyL.nil))
  ·
   go_simp
   replace hF := hF.alloc 9 #[.string ⟨uC1.toArray⟩, .string ⟨uC2.toArray⟩, .string ⟨uPub.toArray⟩]
   simp only [nf] at hF
   refine hK.out _ _ (.of (hF.sub (List.nil_sublist _)) _) (fun _ => ?_)
   clear hK K
   try simp only [nrm, Act.put]
   refine tkf 4 rfl ?_
   try simp only [nrm, Act.put]
   refine wpAnyL_ready (rs := [5, 7]) (by kernel_rfl) (by simp) (AllReadyL.cons rfl (fun K hK => ?_) (AllReadyL.cons rfl (fun K hK => ?_) AllReadyL.nil))
   ·
    rw [if_pos (by rfl)]
    refine wp_val (exec_at (t' := 9) rfl rfl (HR.out _ _ (hF.blk 1 _ rfl).2)) ?_
    refine hK.out _ _ (.of (hF.sub (List.nil_sublist _)) _) (fun _ => ?_)
    clear hK K
    try simp only [nrm, Act.put]
    refine wpAnyL_ready (rs := [7]) (by kernel_rfl) (by simp) (AllReadyL.cons rfl (fun K hK => ?_) AllReadyL.nil)
    go_simp
    go_at_call 60
    with_reducible refine (cky.out _).mono ?_
    rintro _ ww ⟨rfl, hbn⟩
    replace hF := hF.call hbn
    clear hbn
    refine hK.out _ _ (.of (hF.sub (List.nil_sublist _)) _) (fun _ => ?_)
    clear hK K
    try simp only [nrm, Act.put]
    refine tkf 8 rfl ?_
    try simp only [nrm, Act.put]
    refine tkf 10 rfl ?_
    try simp only [nrm, Act.put]
    refine stw 11 0 hF rfl rfl rfl rfl rfl rfl rfl rfl ?_
    clear hF; intro ww hF; simp only [nf] at hF
    try simp only [nrm, Act.put]
    refine dnw ?_
    go_wp2_with (first
     | go_skip
     | (refine aA rfl rfl hF ?_; clear hF; intro gg ww hF; simp only [nf] at hF)
     | (refine aB rfl rfl hF rfl ?_; clear hF; intro gg ww hF; simp only [nf] at hF)
     | (refine iL (t := 3) hF rfl rfl fun ho hx hb => ?_; refine aC (v := .int _ _) ho hb hx hF rfl rfl ?_; clear ho hx hb)
     | (refine iL hF rfl rfl fun ho hx hb => ?_; (first | refine aL ho hb hx hF rfl rfl ?_ | refine aC (v := .slice _ _ _) ho hb hx hF rfl rfl ?_ | refine aC (v := .string _) ho hb hx hF rfl rfl ?_ | refine aC (v := .bool _) ho hb hx hF rfl rfl ?_); clear ho hx hb)
     | (refine iS hF rfl rfl fun ho hx hb => ?_; (first | refine aS ho hb hx hF rfl rfl rfl rfl ?_ | refine aT (v := .int _ _) ho hb hx hF rfl rfl rfl rfl ?_ | refine aT (v := .slice _ _ _) ho hb hx hF rfl rfl rfl rfl ?_ | refine aT (v := .bool _) ho hb hx hF rfl rfl rfl rfl ?_); clear ho hx hb hF; intro ww hF; simp only [nf] at hF)
     )
    refine bodyPost_ret (results1 Tryz.results25 (res_cell 0 hF rfl rfl rfl)) rfl ⟨by rw [HV.out], hF.below⟩
   ·
    go_simp
    go_at_call 60
    with_reducible refine (cky.out _).mono ?_
    rintro _ ww ⟨rfl, hbn⟩
    replace hF := hF.call hbn
    clear hbn
    refine hK.out _ _ (.of (hF.sub (List.nil_sublist _)) _) (fun _ => ?_)
    clear hK K
    try simp only [nrm, Act.put]
    refine tkf 8 rfl ?_
    try simp only [nrm, Act.put]
    refine wpAnyL_ready (rs := [5]) (by kernel_rfl) (by simp) (AllReadyL.cons rfl (fun K hK => ?_) AllReadyL.nil)
    rw [if_pos (by rfl)]
    refine wp_val (exec_at (t' := 9) rfl rfl (HR.out _ _ (hF.blk 1 _ rfl).2)) ?_
    refine hK.out _ _ (.of (hF.sub (List.nil_sublist _)) _) (fun _ => ?_)
    clear hK K
    try simp only [nrm, Act.put]
    refine tkf 10 rfl ?_
    try simp only [nrm, Act.put]
    refine stw 11 0 hF rfl rfl rfl rfl rfl rfl rfl rfl ?_
    clear hF; intro ww hF; simp only [nf] at hF
    try simp only [nrm, Act.put]
    refine dnw ?_
    go_wp2_with (first
     | go_skip
     | (refine aA rfl rfl hF ?_; clear hF; intro gg ww hF; simp only [nf] at hF)
     | (refine aB rfl rfl hF rfl ?_; clear hF; intro gg ww hF; simp only [nf] at hF)
     | (refine iL (t := 3) hF rfl rfl fun ho hx hb => ?_; refine aC (v := .int _ _) ho hb hx hF rfl rfl ?_; clear ho hx hb)
     | (refine iL hF rfl rfl fun ho hx hb => ?_; (first | refine aL ho hb hx hF rfl rfl ?_ | refine aC (v := .slice _ _ _) ho hb hx hF rfl rfl ?_ | refine aC (v := .string _) ho hb hx hF rfl rfl ?_ | refine aC (v := .bool _) ho hb hx hF rfl rfl ?_); clear ho hx hb)
     | (refine iS hF rfl rfl fun ho hx hb => ?_; (first | refine aS ho hb hx hF rfl rfl rfl rfl ?_ | refine aT (v := .int _ _) ho hb hx hF rfl rfl rfl rfl ?_ | refine aT (v := .slice _ _ _) ho hb hx hF rfl rfl rfl rfl ?_ | refine aT (v := .bool _) ho hb hx hF rfl rfl rfl rfl ?_); clear ho hx hb hF; intro ww hF; simp only [nf] at hF)
     )
    refine bodyPost_ret (results1 Tryz.results25 (res_cell 0 hF rfl rfl rfl)) rfl ⟨by rw [HV.out], hF.below⟩
  ·
   go_simp
   go_at_call 60
   with_reducible refine (cky.out _).mono ?_
   rintro _ ww ⟨rfl, hbn⟩
   replace hF := hF.call hbn
   clear hbn
   refine hK.out _ _ (.of (hF.sub (List.nil_sublist _)) _) (fun _ => ?_)
   clear hK K
   try simp only [nrm, Act.put]
   refine tkf 8 rfl ?_
   try simp only [nrm, Act.put]
   refine wpAnyL_ready (rs := [0]) (by kernel_rfl) (by simp) (AllReadyL.cons rfl (fun K hK => ?_) AllReadyL.nil)
   go_simp
   replace hF := hF.alloc 9 #[.string ⟨uC1.toArray⟩, .string ⟨uC2.toArray⟩, .string ⟨uPub.toArray⟩]
   simp only [nf] at hF
   refine hK.out _ _ (.of (hF.sub (List.nil_sublist _)) _) (fun _ => ?_)
   clear hK K
   try simp only [nrm, Act.put]
   refine tkf 4 rfl ?_
   try simp only [nrm, Act.put]
   refine wpAnyL_ready (rs := [5]) (by kernel_rfl) (by simp) (AllReadyL.cons rfl (fun K hK => ?_) AllReadyL.nil)
   rw [if_pos (by rfl)]
   refine wp_val (exec_at (t' := 9) rfl rfl (HR.out _ _ (hF.blk 1 _ rfl).2)) ?_
   refine hK.out _ _ (.of (hF.sub (List.nil_sublist _)) _) (fun _ => ?_)
   clear hK K
   try simp only [nrm, Act.put]
   refine tkf 10 rfl ?_
   try simp only [nrm, Act.put]
   refine stw 11 0 hF rfl rfl rfl rfl rfl rfl rfl rfl ?_
   clear hF; intro ww hF; simp only [nf] at hF
   try simp only [nrm, Act.put]
   refine dnw ?_
   go_wp2_with (first
    | go_skip
    | (refine aA rfl rfl hF ?_; clear hF; intro gg ww hF; simp only [nf] at hF)
    | (refine aB rfl rfl hF rfl ?_; clear hF; intro gg ww hF; simp only [nf] at hF)
    | (refine iL (t := 3) hF rfl rfl fun ho hx hb => ?_; refine aC (v := .int _ _) ho hb hx hF rfl rfl ?_; clear ho hx hb)
    | (refine iL hF rfl rfl fun ho hx hb => ?_; (first | refine aL ho hb hx hF rfl rfl ?_ | refine aC (v := .slice _ _ _) ho hb hx hF rfl rfl ?_ | refine aC (v := .string _) ho hb hx hF rfl rfl ?_ | refine aC (v := .bool _) ho hb hx hF rfl rfl ?_); clear ho hx hb)
    | (refine iS hF rfl rfl fun ho hx hb => ?_; (first | refine aS ho hb hx hF rfl rfl rfl rfl ?_ | refine aT (v := .int _ _) ho hb hx hF rfl rfl rfl rfl ?_ | refine aT (v := .slice _ _ _) ho hb hx hF rfl rfl rfl rfl ?_ | refine aT (v := .bool _) ho hb hx hF rfl rfl rfl rfl ?_); clear ho hx hb hF; intro ww hF; simp only [nf] at hF)
    )
   refine bodyPost_ret (results1 Tryz.results25 (res_cell 0 hF rfl rfl rfl)) rfl ⟨by rw [HV.out], hF.below⟩
end Go.Proofs.YtnhjgocdepbajaaGreat
