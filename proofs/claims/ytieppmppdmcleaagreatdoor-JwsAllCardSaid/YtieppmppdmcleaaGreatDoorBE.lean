/- own.Texts and own.Value: copies in memory of their own. Condition: small values. -/
import Derived.Test.YtieppmppdmcleaaGreatDoorJf
set_option linter.unusedVariables false
set_option linter.unusedSimpArgs false
set_option maxRecDepth 20000
namespace Go.Proofs.YtieppmppdmcleaaGreatDoor
open Go.RowKit
mutual
def smJ : Jv → Prop
 | .mk k _ n s names kids => (-9223372036854775808 ≤ k ∧ k ≤ 9223372036854775807) ∧ (-9223372036854775808 ≤ n ∧ n ≤ 9223372036854775807) ∧ s.length ≤ 100000 ∧ names.length ≤ 100000 ∧ (∀ p ∈ names, p.length ≤ 100000) ∧ kids.length ≤ 100000 ∧ smJs kids
def smJs : List Jv → Prop
 | [] => True
 | k :: ks => smJ k ∧ smJs ks
end
theorem smJs_all : ∀ {ks : List Jv}, smJs ks → ∀ k ∈ ks, smJ k
 | [], _, k, h => by simp at h
 | x :: ks, h, k, hk => by
  rw [smJs] at h
  rcases List.mem_cons.1 hk with e | hk
  ·
   rw [e]; exact h.1
  ·
   exact smJs_all h.2 k hk
def RowOf (w : World) (g : Nat) (t : TypeId) (N : Nat) (xs : List Value) : Prop := ∃ cur : Array Value, Blk w g t cur ∧ cur.size = N ∧ ∀ (j : Nat) (u : Value), xs[j]? = some u → cur[j]? = some u
theorem RowOf.lt {w : World} {g N : Nat} {t : TypeId} {xs : List Value} (h : RowOf w g t N xs) : g < w.heap.size := by obtain ⟨cur, h, _⟩ := h; exact h.lt
theorem RowOf.below {w w' : World} {g N B : Nat} {t : TypeId} {xs : List Value} (h : RowOf w g t N xs) (hb : Below B w w') (hg : g < B) : RowOf w' g t N xs := by
 obtain ⟨cur, h1, h2⟩ := h
 exact ⟨cur, h1.below hb hg, h2⟩
theorem RowOf.grown {w w' : World} {g N : Nat} {t : TypeId} {xs : List Value} {row : Option Nat} (h : RowOf w g t N xs) (hb : w.grownBy w' row) (hg : some g ≠ row) : RowOf w' g t N xs := by
 obtain ⟨cur, h1, h2⟩ := h
 exact ⟨cur, h1.grown hb hg, h2⟩
theorem RowOf.reads {w : World} {g N n size : Nat} {t : TypeId} {xs : List Value} (h : RowOf w g t N xs) (hl : xs.length = n * size) : Reads w w.heap.size size (some ⟨g, 0, none⟩) n xs := by
 obtain ⟨cur, h1, h2, h3⟩ := h
 refine ⟨hl, fun _ => ⟨_, rfl, h1.lt, fun j u hu => ?_⟩⟩
 rw [add_zero_at, h1.cell]
 exact h3 j u hu
theorem RowOf.made (w : World) (t : TypeId) (z : Array Value) (N : Nat) : RowOf (w.alloc (.cells (madeCells z N) t)) w.heap.size t N [] := ⟨_, Blk.new w t _, size_madeCells _ _, fun j u hu => by simp at hu⟩
theorem blk_cells {w : World} {g : Nat} {t : TypeId} {cs : List Value} (h : Blk w g t cs.toArray) : ∀ j u, cs[j]? = some u → w.cell? ((⟨g, 0, none⟩ : Addr).add j) = some u := by
 intro j u hu
 rw [add_zero_at, h.cell]
 simpa using hu
theorem jv_ones (kind : Int) (b : Bool) (n : Int) (s : ByteArray) (NA : Option Addr) (nn nc : Nat) (A : Option Addr) (m c : Nat) : (#[Value.int .i64 kind, .bool b, .int .i64 n, .string s, .slice NA nn nc, .slice A m c]).all (·.oneCell') = true := by simp [Value.oneCell']
end Go.Proofs.YtieppmppdmcleaaGreatDoor
/- Get and Text of both, over values in memory. Condition: small values. -/
namespace Go.Proofs.YtieppmppdmcleaaGreatDoor
open Go.RowKit
theorem results_j_t {fn : Func} {p u : Tmp} (h : fn.results = #[.cell p 26, .tmp u]) (tmps : Array Value) (w : World) (g : Nat) (c0 c1 c2 c3 c4 c5 : Value)
  (hp : tmps.getD p undef = .pointer (some ⟨g, 0, none⟩)) (hb : Blk w g 26 #[c0, c1, c2, c3, c4, c5]) : (results fn tmps).run Tryz.prog w = .ok (.tuple #[.agg #[c0, c1, c2, c3, c4, c5], tmps.getD u undef]) w := by
 have hp' : tmps[p]?.getD undef = .pointer (some ⟨g, 0, none⟩) := by simpa using hp
 simp [results, h, hp', asAddr, run_loadVar_row w g 26 26 #[c0, c1, c2, c3, c4, c5] (0, 0) _ hb Tryz.underlying26 rfl jv_size]
end Go.Proofs.YtieppmppdmcleaaGreatDoor
/- Get and Text of the document, over values in memory. Condition: small values. -/
namespace Go.Proofs.YtieppmppdmcleaaGreatDoor
open Go.RowKit
end Go.Proofs.YtieppmppdmcleaaGreatDoor
/- A set of texts in memory, as a map of bools. No condition of its own. -/
namespace Go.Proofs.YtieppmppdmcleaaGreatDoor
open Go.RowKit Go.Maps
def boolElem : Value → Option (DataW Unit × List MemPlace)
 | .bool b => some (.lit (.bool b), [])
 | _ => none
theorem boolElem_inv {v : Value} {z : DataW Unit × List MemPlace} (h : boolElem v = some z) : ∃ b, v = .bool b ∧ z = (.lit (.bool b), []) := by
 cases v <;> simp [boolElem] at h
 exact ⟨_, rfl, h.symm⟩
def keysS (ps : List (List UInt8)) : List Lit := ps.map Lit.string
def mapS (ps : List (List UInt8)) : DataW Unit := setOf (.lit (.bool true)) (keysS ps)
theorem keysS_lit (ps : List (List UInt8)) : ∀ x ∈ keysS ps, WideAt.IsKeyLit x := by
 intro x hx
 obtain ⟨p, _, rfl⟩ := List.mem_map.1 hx
 trivial
theorem mapS_has (ps : List (List UInt8)) (q : List UInt8) : has (mapS ps) (.string q) = ps.contains q := by
 rw [mapS, has_setOf _ _ _ (keysS_lit ps), Bool.eq_iff_iff, List.contains_iff_mem, keysS, List.any_map, List.any_eq_true]
 constructor
 ·
  rintro ⟨p, hp, h⟩
  have : p = q := by simpa [Lit.sameKey] using h
  subst this; exact hp
 ·
  intro h
  exact ⟨q, h, by simp [Lit.sameKey]⟩
theorem mapS_put (ps : List (List UInt8)) (p : List UInt8) : (mapS ps).put (.string p) (.lit (.bool true)) = mapS (ps ++ [p]) := by
 rw [mapS, mapS, keysS, keysS, List.map_append, List.map_cons, List.map_nil, setOf_snoc]
theorem fold_at (k : Lit) : ∀ (acc : List Lit) (m : DataW Unit), IsMap m → (∀ x ∈ acc, WideAt.IsKeyLit x) → m.atKey k (.lit (.bool false)) = .lit (.bool (has m k)) →
  (acc.foldl (fun m x => m.put x (.lit (.bool true))) m).atKey k (.lit (.bool false)) = .lit (.bool (has (acc.foldl (fun m x => m.put x (.lit (.bool true))) m) k))
 | [], m, _, _, h => h
 | x :: acc, m, hm, hl, h => by
  rw [List.foldl_cons]
  refine fold_at k acc _ (hm.put _ _) (fun y hy => hl y (by simp [hy])) ?_
  by_cases hx : k = x
  ·
   subst hx
   rw [atKey_put_same hm (hl k (by simp)), has_put_same hm (hl k (by simp))]
  ·
   rw [atKey_put_other hx, has_put_other hx]
   exact h
theorem mapS_at (ps : List (List UInt8)) (q : List UInt8) : (mapS ps).atKey (.string q) (.lit (.bool false)) = .lit (.bool (ps.contains q)) := by
 rw [← mapS_has]
 exact fold_at _ _ _ isMap_empty (keysS_lit ps) rfl
theorem lawS : Keyed Tryz.prog 9 := string_keyed Tryz.underlying9
theorem zeroB (w : World) : (zeroValue 4).run Tryz.prog w = .ok (.bool false) w := by kernel_rfl
theorem keyS (x : ByteArray) (q : List UInt8) (hx : x.data.toList = q) (h : x.size ≤ 9223372036854775807) : keyOf Tryz.prog 9 (.string x) = some (.string q) := by
 rw [← hx]
 exact Go.WideMaps.keyOf_string_mk Tryz.underlying9 (by unfold maxLen; omega)
def MapS (w : World) (b : Nat) (ps : List (List UInt8)) : Prop := ∃ n, w.ownsMap Tryz.prog 9 boolElem b n (mapS ps)
theorem MapS.look {w : World} {b : Nat} {ps : List (List UInt8)} (h : MapS w b ps) (x : ByteArray) (q : List UInt8) (hx : x.data.toList = q) (hs : x.size ≤ 9223372036854775807) :
  (Instr.lookup 164 (.map (some b)) (.string x) false).run Tryz.prog w = .ok (.bool (ps.contains q)) w := by
 obtain ⟨n, h⟩ := h
 obtain ⟨v, z, hrun, hv⟩ := h.lookup lawS Tryz.underlying164 (zeroB w) (zd := .lit (.bool false)) (zp := []) rfl (keyS x q hx hs)
 obtain ⟨c, rfl, hc⟩ := boolElem_inv hv
 rw [mapS_at] at hc
 simp only [Prod.mk.injEq, DataW.lit.injEq, Lit.bool.injEq] at hc
 rw [hrun, ← hc.1]
theorem MapS.below {w w' : World} {b B : Nat} {ps : List (List UInt8)} (h : MapS w b ps) (hb : Below B w w') (hB : b < B) : MapS w' b ps := by
 obtain ⟨n, es, clock, h1, h2⟩ := h
 exact ⟨n, es, clock, (hb.block b hB).trans h1, h2⟩
theorem MapS.lt {w : World} {b : Nat} {ps : List (List UInt8)} (h : MapS w b ps) : b < w.heap.size := by
 obtain ⟨n, h⟩ := h
 exact h.lt
theorem MapS.kept {w w' : World} {b : Nat} {ps : List (List UInt8)} {row : Option Nat} (h : MapS w b ps) (hg : w.grownBy w' row) (hne : some b ≠ row) : MapS w' b ps := by
 obtain ⟨n, h⟩ := h
 exact ⟨n, h.kept hg hne⟩
theorem MapS.made (w : World) : (w.alloc (.map #[] 0)).ownsMap Tryz.prog 9 boolElem w.heap.size 0 (mapS []) := World.ownsMap_made w Tryz.prog 9 boolElem
end Go.Proofs.YtieppmppdmcleaaGreatDoor
/- json.named: are an object's names as they must be? Condition: small values. -/
namespace Go.Proofs.YtieppmppdmcleaaGreatDoor
open Go.RowKit Go.Maps
theorem below_row {w w' : World} (h : Below w.heap.size w w') (row : Option Nat) : w.grownBy w' row := ⟨h.os, h.tape, h.output, h.size, fun i hi _ => h.block i hi⟩
def namesB (names : List (List UInt8)) (m : Nat) : Bool := names.all validL && decide names.Nodup && decide (names.length = m)
theorem namesB_twice {names : List (List UInt8)} {m i : Nat} {p : List UInt8} (hp : names[i]? = some p) (hc : (names.take i).contains p = true) : namesB names m = false := by
 have : ¬ names.Nodup := by
  intro hnd
  rw [List.contains_iff_mem] at hc
  obtain ⟨j, hj, e⟩ := List.getElem_of_mem hc
  rw [List.getElem_take] at e
  obtain ⟨hi, e2⟩ := List.getElem?_eq_some_iff.1 hp
  have hji : j < i := by simp at hj; omega
  exact (List.pairwise_iff_getElem.1 hnd) j i (by omega) hi hji (by rw [e, e2])
 simp [namesB, this]
theorem namesB_bad {names : List (List UInt8)} {m i : Nat} {p : List UInt8} (hp : names[i]? = some p) (hc : validL p = false) : namesB names m = false := by
 have : names.all validL = false := by
  rw [List.all_eq_false]
  exact ⟨p, List.mem_of_getElem? hp, by simp [hc]⟩
 simp [namesB, this]
theorem nodup_snoc {names : List (List UInt8)} {i : Nat} {p : List UInt8} (hp : names[i]? = some p) (hc : (names.take i).contains p = false) (h : (names.take i).Nodup) : (names.take (i + 1)).Nodup := by
 rw [List.take_add_one, hp]
 have hm : p ∉ names.take i := by
  intro hm
  rw [← List.contains_iff_mem, hc] at hm
  cases hm
 simp only [Option.toList_some]
 rw [List.nodup_append]
 exact ⟨h, by simp, fun a ha b hb e => hm (by simp at hb; rw [← hb, ← e]; exact ha)⟩
theorem all_snoc {names : List (List UInt8)} {i : Nat} {p : List UInt8} (hp : names[i]? = some p) (hc : validL p = true) (h : (names.take i).all validL = true) : (names.take (i + 1)).all validL = true := by
 rw [List.take_add_one, hp, List.all_append, h]
 simp [hc]
set_option maxHeartbeats 4000000 in
theorem named_walk (v : Jv) (cs : List Value) (w : World) (hsm : smJ v) (hv : JvV w 0 v cs) :
  Calls Tryz.prog 115 #[.agg cs.toArray] w fun e w' => e = .returned (.bool (namesB v.names v.kids.length)) ∧ Below w.heap.size w w' := by
 obtain ⟨k, b, n, s, names, kids⟩ := v
 show Calls _ _ _ _ fun e w' => e = .returned (.bool (namesB names kids.length)) ∧ _
 rw [smJ] at hsm
 obtain ⟨_, _, _, hs4, hs5, hs6, hs7⟩ := hsm
 rw [JvV] at hv
 obtain ⟨NA, nc, A, c, vs, rfl, h1, h2, h3, _, h5, _, h7⟩ := hv
 simp only [cells6, strV]
 generalize hx : (⟨s.toArray⟩ : ByteArray) = y at *
 clear hx
 have hw1 : (w.alloc (.cells #[.int .i64 k, .bool b, .int .i64 n, .string y, .slice NA names.length nc, .slice A kids.length c] 26)).heap.size = w.heap.size + 1 := by simp
 have hb1 := (Below.refl w.heap.size w).alloc (Nat.le_refl _) (.cells #[.int .i64 k, .bool b, .int .i64 n, .string y, .slice NA names.length nc, .slice A kids.length c] 26)
 have HB2 := Lib.hid (hb1.alloc hb1.size (.map #[] 0))
 have HK1 := Lib.hid ((Blk.new w 26 #[.int .i64 k, .bool b, .int .i64 n, .string y, .slice NA names.length nc, .slice A kids.length c]).alloc (.map #[] 0))
 have hm := MapS.made (w.alloc (.cells #[.int .i64 k, .bool b, .int .i64 n, .string y, .slice NA names.length nc, .slice A kids.length c] 26))
 rw [hw1] at hm
 have HM := Lib.hid hm
 clear hw1 hb1 hm
 have hmm := @run_makeMap Tryz.prog
 go_enter Tryz.func115, Tryz.ntmps115
 go_wp2_with fail
 go_loopw [10] (fun iv wr => ∃ i : Nat, i ≤ names.length ∧ iv = .int .i64 i ∧ Hid ((names.take i).Nodup) ∧ Hid ((names.take i).all validL = true) ∧ Hid (wr.ownsMap Tryz.prog 9 boolElem (w.heap.size + 1) i (mapS (names.take i))) ∧ Hid (Below w.heap.size w wr) ∧ Hid (Blk wr w.heap.size 26 #[.int .i64 k, .bool b, .int .i64 n, .string y, .slice NA names.length nc, .slice A kids.length c])) (fun iv _ => names.length - (intOf iv).toNat)
 case atStart => exact ⟨0, by omega, rfl, by show List.Nodup _; simp, by show _ = _; simp, by simpa using HM, HB2, HK1⟩
 case round =>
  clear HM HB2 HK1
  obtain ⟨i, hi, rfl, hnd, hall, hM, hB, hK⟩ := hrel
  by_cases hlt : i < names.length
  ·
   obtain ⟨ad, p, rfl, hpk, had, hcu⟩ := name_at h3 hlt
   have hpl := hs5 p (List.mem_of_getElem? hpk)
   replace hcu := (hB.out.cell (p := ad.add i) (by rw [block_of_add]; exact had)).trans hcu
   have hkey := keyS ⟨p.toArray⟩ p (by simp) (by rw [size_mks]; omega)
   have hlook := (show MapS wr (w.heap.size + 1) (names.take i) from ⟨_, hM.out⟩).look ⟨p.toArray⟩ p (by simp) (by rw [size_mks]; omega)
   have cp := Lib.hid (fun W => valid_walk ⟨p.toArray⟩ p (by simp) W (by rw [size_mks]; omega))
   cases hcn : (names.take i).contains p
   ·
    rw [hcn] at hlook
    cases hvp : validL p
    ·
     have hv := Lib.hid (namesB_bad (m := kids.length) hpk hvp)
     rw [hvp] at cp
     clear hpk hpl hcn hvp
     generalize (⟨p.toArray⟩ : ByteArray) = x at *
     go_wp2_with fail
     refine (cp.out _).mono ?_
     rintro _ w3 ⟨rfl, hb3⟩
     have HB3 := Lib.hid (below_next hB.out hb3)
     clear hb3
     go_wp2_with fail
     go_ret
     exact ⟨by rw [hv.out]; rfl, HB3.out⟩
    ·
     have HN := Lib.hid (nodup_snoc hpk hcn hnd.out)
     have HA := Lib.hid (all_snoc hpk hvp hall.out)
     have htk : Hid (names.take (i + 1) = names.take i ++ [p]) := by show _ = _; rw [List.take_add_one, hpk]; rfl
     rw [hvp] at cp
     clear hpk hpl hcn hvp
     generalize (⟨p.toArray⟩ : ByteArray) = x at *
     go_wp2_with fail
     refine (cp.out _).mono ?_
     rintro _ w3 ⟨rfl, hb3⟩
     have HB3 := Lib.hid (below_next hB.out hb3)
     have HK3 := Lib.hid (hK.out.below hb3 hK.out.lt)
     have hM3 := Lib.hid (hM.out.kept (row := none) (below_row hb3 none) (by simp))
     have hsz3 := hM.out.lt
     have hsz4 := hb3.size
     clear hb3 hlook hM hK
     go_wp2_with (at_mapUpdate; refine wpList_mapUpdate_own w3 rfl _ _ _ 164 rfl 9 4 lawS Tryz.underlying164 boolElem (w.heap.size + 1) i (mapS (names.take i)) rfl hM3.out (by unfold maxLen; omega) _ _ (.string p) rfl rfl hkey (.lit (.bool true)) [] rfl ?_; intro w2 hown2 hg2; go_frame)
     rw [mapS_put, ← htk.out] at hown2
     have HB2 := Lib.hid (HB3.out.grown hg2 HB3.out.size (fun k e => by cases e; omega))
     have HK2 := Lib.hid (HK3.out.grown hg2 (fun e => by injection e with e; omega))
     have HM2 := Lib.hid hown2
     clear hown2 hg2
     go_wp2_with fail
     exact ⟨⟨i + 1, by omega, by go_num, HN, HA, HM2, HB2, HK2⟩, by simp [intOf]; omega⟩
   ·
    have hv := Lib.hid (namesB_twice (m := kids.length) hpk hcn)
    rw [hcn] at hlook
    clear hpk hpl hcn cp
    generalize (⟨p.toArray⟩ : ByteArray) = x at *
    go_wp2_with fail
    go_ret
    exact ⟨by rw [hv.out]; rfl, hB.out⟩
  ·
   obtain rfl : i = names.length := by omega
   have hv : Hid (namesB names kids.length = ((names.length : Int) == (kids.length : Int))) := by
    show _ = _
    have h1 := hnd.out
    have h2 := hall.out
    rw [List.take_length] at h1 h2
    rw [namesB, h2, decide_eq_true h1, Bool.eq_iff_iff]
    simp
    omega
   have c4 : wr.cell? ⟨w.heap.size, 4, none⟩ = some (.slice NA names.length nc) := hK.out.cell 4
   have c5 : wr.cell? ⟨w.heap.size, 5, none⟩ = some (.slice A kids.length c) := hK.out.cell 5
   go_wp2_with fail
   go_ret
   exact ⟨by rw [hv.out]; rfl, hB.out⟩
end Go.Proofs.YtieppmppdmcleaaGreatDoor
