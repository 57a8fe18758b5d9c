/- A set of words in memory: what scope.words hands back; same rows. No condition of its own. -/
import Derived.Test.YtaaajmfbblbgiaaDoorSe
import Derived.Maps.RangeWalk
set_option linter.unusedVariables false
set_option linter.unusedSimpArgs false
set_option maxRecDepth 20000
namespace Go.Proofs.YtaaajmfbblbgiaaDoor
open Go.RowKit Go.Maps
def boolElem : Value → Option (DataW Unit × List MemPlace)
  | .bool b => some (.lit (.bool b), [])
  | _ => none
theorem boolElem_inv {v : Value} {z : DataW Unit × List MemPlace} (h : boolElem v = some z) : ∃ b, v = .bool b ∧ z = (.lit (.bool b), []) := by
  cases v <;> simp [boolElem] at h
  exact ⟨_, rfl, h.symm⟩
def keysS (ps : List (List UInt8)) : List Lit := ps.map Lit.string
def mapS (ps : List (List UInt8)) : DataW Unit := setOf (.lit (.bool true)) (keysS ps)
theorem keysS_lit (ps : List (List UInt8)) : ∀ x ∈ keysS ps, WideAt.IsKeyLit x := by
  intro x hx
  obtain ⟨p, _, rfl⟩ := List.mem_map.1 hx
  trivial
theorem mapS_has (ps : List (List UInt8)) (q : List UInt8) : has (mapS ps) (.string q) = ps.contains q := by
  rw [mapS, has_setOf _ _ _ (keysS_lit ps), Bool.eq_iff_iff, List.contains_iff_mem, keysS, List.any_map, List.any_eq_true]
  constructor
  · rintro ⟨p, hp, h⟩
    have : p = q := by simpa [Lit.sameKey] using h
    subst this; exact hp
  · intro h
    exact ⟨q, h, by simp [Lit.sameKey]⟩
theorem mapS_put (ps : List (List UInt8)) (p : List UInt8) : (mapS ps).put (.string p) (.lit (.bool true)) = mapS (ps ++ [p]) := by
  rw [mapS, mapS, keysS, keysS, List.map_append, List.map_cons, List.map_nil, setOf_snoc]
theorem fold_at (k : Lit) : ∀ (acc : List Lit) (m : DataW Unit), IsMap m → (∀ x ∈ acc, WideAt.IsKeyLit x) → m.atKey k (.lit (.bool false)) = .lit (.bool (has m k)) →
    (acc.foldl (fun m x => m.put x (.lit (.bool true))) m).atKey k (.lit (.bool false)) = .lit (.bool (has (acc.foldl (fun m x => m.put x (.lit (.bool true))) m) k))
  | [], m, _, _, h => h
  | x :: acc, m, hm, hl, h => by
    rw [List.foldl_cons]
    refine fold_at k acc _ (hm.put _ _) (fun y hy => hl y (by simp [hy])) ?_
    by_cases hx : k = x
    · subst hx
      rw [atKey_put_same hm (hl k (by simp)), has_put_same hm (hl k (by simp))]
    · rw [atKey_put_other hx, has_put_other hx]
      exact h
theorem mapS_at (ps : List (List UInt8)) (q : List UInt8) : (mapS ps).atKey (.string q) (.lit (.bool false)) = .lit (.bool (ps.contains q)) := by
  rw [← mapS_has]
  exact fold_at _ _ _ isMap_empty (keysS_lit ps) rfl
theorem lawS : Keyed Tryd.prog 9 := string_keyed Tryd.underlying9
theorem zeroB (w : World) : (zeroValue 4).run Tryd.prog w = .ok (.bool false) w := by kernel_rfl
theorem keyS (x : ByteArray) (q : List UInt8) (hx : x.data.toList = q) (h : x.size ≤ 9223372036854775807) : keyOf Tryd.prog 9 (.string x) = some (.string q) := by
  rw [← hx]
  exact Go.WideMaps.keyOf_string_mk Tryd.underlying9 (by unfold maxLen; omega)
/-- block b is the set of the words ps -/
def MapS (w : World) (b : Nat) (ps : List (List UInt8)) : Prop := ∃ n, w.ownsMap Tryd.prog 9 boolElem b n (mapS ps)
theorem MapS.look {w : World} {b : Nat} {ps : List (List UInt8)} (h : MapS w b ps) (x : ByteArray) (q : List UInt8) (hx : x.data.toList = q) (hs : x.size ≤ 9223372036854775807) :
    (Instr.lookup 45 (.map (some b)) (.string x) false).run Tryd.prog w = .ok (.bool (ps.contains q)) w := by
  obtain ⟨n, h⟩ := h
  obtain ⟨v, z, hrun, hv⟩ := h.lookup lawS Tryd.underlying45 (zeroB w) (zd := .lit (.bool false)) (zp := []) rfl (keyS x q hx hs)
  obtain ⟨c, rfl, hc⟩ := boolElem_inv hv
  rw [mapS_at] at hc
  simp only [Prod.mk.injEq, DataW.lit.injEq, Lit.bool.injEq] at hc
  rw [hrun, ← hc.1]
theorem MapS.below {w w' : World} {b B : Nat} {ps : List (List UInt8)} (h : MapS w b ps) (hb : Below B w w') (hB : b < B) : MapS w' b ps := by
  obtain ⟨n, es, clock, h1, h2⟩ := h
  exact ⟨n, es, clock, (hb.block b hB).trans h1, h2⟩
theorem MapS.lt {w : World} {b : Nat} {ps : List (List UInt8)} (h : MapS w b ps) : b < w.heap.size := by
  obtain ⟨n, h⟩ := h
  exact h.lt
def wordsS (ps : List (List UInt8)) : List (List UInt8) := if scopeE ps = 0 then ps else []
def WordsR (ps : List (List UInt8)) (w : World) (e : Ending) (w' : World) : Prop :=
  Below w.heap.size w w' ∧ ∃ g, e = .returned (.tuple #[.map (some g), .bool (okB ps)]) ∧ w.heap.size ≤ g ∧ MapS w' g (wordsS ps)
set_option maxHeartbeats 8000000 in
theorem words_walk (s : ByteArray) (l : List UInt8) (hs : s.data.toList = l) (w : World) (hm : s.size ≤ 1000000) :
    Calls Tryd.prog 25 #[.string s] w (WordsR (splitC 32 l) w) := by
  have cp := Lib.hid (parse_walk s l hs w hm)
  have hsz : l.length = s.size := by rw [← hs, Lib.size_eq]
  have hmem := Lib.hid (splitC_mem 32 l)
  obtain ⟨ps, hps⟩ : ∃ ps, splitC 32 l = ps := ⟨_, rfl⟩
  rw [hps] at cp hmem ⊢
  clear hps
  have hmm := @run_makeMap Tryd.prog
  go_enter Tryd.func25, Tryd.ntmps25
  go_wp2_with fail
  refine cp.out.mono ?_
  rintro _ w1 ⟨hb, ⟨h0, g, c, rfl, hg, hc1, hc2, hr⟩ | ⟨h0, rfl⟩⟩
  · have hl := ok_len h0
    have hsz1 := hb.size
    have HR : Hid (RowS (w1.alloc (.map #[] 0)) g ps) := hr.below ((Below.refl w1.heap.size w1).alloc (Nat.le_refl _) _) hr.1
    have HB := Lib.hid (hb.alloc hsz1 (.map #[] 0))
    have HM := Lib.hid (World.ownsMap_made w1 Tryd.prog 9 boolElem)
    have hgl := hr.1
    have hok : Hid (okB ps = true) := decide_eq_true h0
    have hws : Hid (wordsS ps = ps) := if_pos h0
    have hls : Hid (w.heap.size ≤ w1.heap.size) := hsz1
    clear hb hr h0
    go_wp2_with fail
    go_loopw [17] (fun iv wr => ∃ k : Nat, k ≤ ps.length ∧ iv = .int .i64 k ∧ Hid (RowS wr g ps) ∧ Hid (wr.ownsMap Tryd.prog 9 boolElem w1.heap.size k (mapS (ps.take k))) ∧ Hid (Below w.heap.size w wr)) (fun iv _ => ps.length - (intOf iv).toNat)
    case atStart => exact ⟨0, by omega, rfl, HR, HM, HB⟩
    case round =>
      clear HR HB HM
      obtain ⟨k, hk, rfl, hR, hM, hB⟩ := hrel
      by_cases hlt : k < ps.length
      · obtain ⟨p, hpk⟩ : ∃ p, ps[k]? = some p := ⟨_, List.getElem?_eq_getElem (by omega)⟩
        have hc := hR.out.2 k p hpk
        have hpl := hmem.out p (List.mem_of_getElem? hpk)
        have hkey := keyS ⟨p.toArray⟩ p (by simp) (by rw [size_mks]; omega)
        have htk : Hid (ps.take (k + 1) = ps.take k ++ [p]) := by show _ = _; rw [List.take_add_one, hpk]; rfl
        clear hpk hpl
        go_wp2_with (at_mapUpdate; refine wpList_mapUpdate_own wr rfl _ _ _ 45 rfl 9 4 lawS Tryd.underlying45 boolElem w1.heap.size k (mapS (ps.take k)) rfl hM.out (by unfold maxLen; omega) _ _ (.string p) rfl rfl hkey (.lit (.bool true)) [] rfl ?_; intro w2 hown2 hg2; go_frame)
        rw [mapS_put, ← htk.out] at hown2
        have hsz2 := hM.out.lt
        have HR2 : Hid (RowS w2 g ps) := ⟨by have := hR.out.1; have := hg2.size; omega, fun j p hp => by
          rw [World.cell?_of_block (hg2.block g hR.out.1 (fun e => by injection e with e; omega))]
          exact hR.out.2 j p hp⟩
        have HB2 := Lib.hid (hB.out.grown hg2 hB.out.size (fun k e => by cases e; exact hls.out))
        have HM2 := Lib.hid hown2
        clear hown2 hg2
        go_wp2_with fail
        exact ⟨⟨k + 1, by omega, by go_num, HR2, HM2, HB2⟩, by simp [intOf]; omega⟩
      · obtain rfl : k = ps.length := by omega
        have hM2 := hM.out
        rw [List.take_length] at hM2
        have HM2 := Lib.hid hM2
        clear hM2
        go_wp2_with fail
        go_ret2
        exact ⟨hB.out, w1.heap.size, by rw [hok.out]; rfl, hls.out, _, by rw [hws.out]; exact HM2.out⟩
  · have hsz1 := hb.size
    have HB := Lib.hid (hb.alloc hsz1 (.map #[] 0))
    have HM := Lib.hid (World.ownsMap_made w1 Tryd.prog 9 boolElem)
    have hok : Hid (okB ps = false) := decide_eq_false h0
    have hws : Hid (wordsS ps = []) := if_neg h0
    have hk2 : (((scopeE ps : Nat) : Int) == 0) = false := by simpa using h0
    have hls : Hid (w.heap.size ≤ w1.heap.size) := hsz1
    clear hb h0
    go_wp2_with fail
    go_loopw [17] (fun iv wr => iv = .int .i64 0 ∧ wr = w1.alloc (.map #[] 0)) (fun iv _ => 0)
    case atStart => exact ⟨rfl, rfl⟩
    case round =>
      obtain ⟨rfl, rfl⟩ := hrel
      go_wp2_with fail
      go_ret2
      exact ⟨HB.out, w1.heap.size, by rw [hok.out]; rfl, hls.out, 0, by rw [hws.out]; exact HM.out⟩
end Go.Proofs.YtaaajmfbblbgiaaDoor
