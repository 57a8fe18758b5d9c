/- json.Get and countersignref12.Get, and where their values' rows lie. Conditions: small values. -/
import Derived.Test.YtokgkifckgnabaaGreatDoorLe
set_option linter.unusedVariables false
set_option linter.unusedSimpArgs false
set_option maxRecDepth 20000
namespace Go.Proofs.YtokgkifckgnabaaGreatDoor
open Go.RowKit Go.Maps
def GetF (r : Option Jv) (w : World) (e : Ending) (w' : World) : Prop := ∃ cs, e = .returned (.tuple #[.agg cs.toArray, .bool r.isSome]) ∧ JvV w' w.heap.size (r.getD jvZ) cs ∧ Below w.heap.size w w'
def GetP (D : Nat → Prop) (r : Option Jv) (w : World) (e : Ending) (w' : World) : Prop := ∃ cs, e = .returned (.tuple #[.agg cs.toArray, .bool r.isSome]) ∧ JvP w' D (r.getD jvZ) cs ∧ Below w.heap.size w w'
theorem getF_none {w w' : World} {e : Ending} (he : e = .returned (.tuple #[.agg #[.int .i64 0, .bool false, .int .i64 0, .string ⟨#[]⟩, .slice none 0 0, .slice none 0 0], .bool false])) (hb : Below w.heap.size w w') : GetF none w e w' :=
  ⟨[.int .i64 0, .bool false, .int .i64 0, .string ⟨#[]⟩, .slice none 0 0, .slice none 0 0], he, jv_leaf w' _ 0 false 0 [], hb⟩
theorem jvP_leaf (w : World) (D : Nat → Prop) (kind : Int) (b : Bool) (n : Int) (s : List UInt8) : JvP w D (.mk kind b n s [] []) (cells6 kind b n s none 0 0 none 0 0) := by
  rw [JvP]
  exact ⟨none, 0, none, 0, [], rfl, ⟨Nat.le_refl _, by omega⟩, ⟨Nat.le_refl _, by omega⟩, Reads.none_, fun h => absurd h (by simp), Reads.none_, fun h => absurd h (by simp), by rw [JvsP]⟩
theorem getP_none {D : Nat → Prop} {w w' : World} {e : Ending} (he : e = .returned (.tuple #[.agg #[.int .i64 0, .bool false, .int .i64 0, .string ⟨#[]⟩, .slice none 0 0, .slice none 0 0], .bool false])) (hb : Below w.heap.size w w') : GetP D none w e w' :=
  ⟨[.int .i64 0, .bool false, .int .i64 0, .string ⟨#[]⟩, .slice none 0 0, .slice none 0 0], he, jvP_leaf w' D 0 false 0 [], hb⟩
theorem JvP.form {w : World} {D : Nat → Prop} {t : Jv} {cs : List Value} (h : JvP w D t cs) : ∃ (kd : Int) (b : Bool) (nm : Int) (s : ByteArray) (NA : Option Addr) (nn nc : Nat) (A : Option Addr) (m cp : Nat), cs = [.int .i64 kd, .bool b, .int .i64 nm, .string s, .slice NA nn nc, .slice A m cp] := by
  cases t
  rw [JvP] at h
  obtain ⟨NA, nc, A, c, vs, rfl, _⟩ := h
  exact ⟨_, _, _, _, _, _, _, _, _, _, rfl⟩
theorem JvsP.get {w : World} {D : Nat → Prop} : ∀ {ts : List Jv} {vs : List (List Value)} {i : Nat} {k : Jv}, JvsP w D ts vs → ts[i]? = some k → ∃ v, vs[i]? = some v ∧ JvP w D k v
  | [], _, _, _, _, h => by simp at h
  | t :: ts, vs, 0, k, h, hk => by
    rw [JvsP] at h
    obtain ⟨v, vs', rfl, h2, _⟩ := h
    simp at hk
    subst hk
    exact ⟨v, rfl, h2⟩
  | t :: ts, vs, i + 1, k, h, hk => by
    rw [JvsP] at h
    obtain ⟨v, vs', rfl, _, h3⟩ := h
    obtain ⟨u, hu, h4⟩ := JvsP.get h3 (by simpa using hk)
    exact ⟨u, by simpa using hu, h4⟩
theorem jkidP_at {w : World} {D : Nat → Prop} {A : Option Addr} {ts : List Jv} {vs : List (List Value)} (h : JvsP w D ts vs) (hr : Reads w w.heap.size 6 A ts.length vs.flatten) {i : Nat} {k : Jv} (hk : ts[i]? = some k) :
    ∃ ad v, A = some ad ∧ JvP w D k v ∧ ∀ j u, v[j]? = some u → w.cell? ((ad.add (i * 6)).add j) = some u := by
  have hi := (List.getElem?_eq_some_iff.1 hk).1
  obtain ⟨ad, e, _, hc⟩ := hr.2 (by omega)
  obtain ⟨v, hv, ht⟩ := h.get hk
  have hj : JvsV w 0 ts vs := JvsP.toV (fun _ _ => Nat.zero_le _) ts vs h
  exact ⟨ad, v, e, ht, fun j u hu => by rw [add_of_add]; exact hc _ _ (flat6 hj hv j u hu)⟩
set_option maxHeartbeats 4000000 in
theorem get_walk2 (v : Jv) (cs : List Value) (q : List UInt8) (w : World) (hsm : smJ v) (hv : JvV w 0 v cs) :
    Calls Tryz.prog 19 #[.agg cs.toArray, .string ⟨q.toArray⟩] w (GetF (getJ v q) w) := by
  obtain ⟨k, b, n, s, names, kids⟩ := v
  rw [smJ] at hsm
  obtain ⟨_, _, _, hs4, _, hs6, hs7⟩ := hsm
  rw [JvV] at hv
  obtain ⟨NA, nc, A, c, vs, rfl, h1, h2, h3, _, h5, _, h7⟩ := hv
  simp only [cells6, strV]
  generalize hx : (⟨s.toArray⟩ : ByteArray) = y at *
  clear hx
  have hw1 : (w.alloc (.cells #[.int .i64 k, .bool b, .int .i64 n, .string y, .slice NA names.length nc, .slice A kids.length c] 27)).heap.size = w.heap.size + 1 := by simp
  have hb1 := (Below.refl w.heap.size w).alloc (Nat.le_refl _) (.cells #[.int .i64 k, .bool b, .int .i64 n, .string y, .slice NA names.length nc, .slice A kids.length c] 27)
  have HB2 := Lib.hid (hb1.alloc hb1.size (.cells #[.int .i64 0, .bool false, .int .i64 0, .string ⟨#[]⟩, .slice none 0 0, .slice none 0 0] 27))
  have hk2 := Blk.new (w.alloc (.cells #[.int .i64 k, .bool b, .int .i64 n, .string y, .slice NA names.length nc, .slice A kids.length c] 27)) 27 #[.int .i64 0, .bool false, .int .i64 0, .string ⟨#[]⟩, .slice none 0 0, .slice none 0 0]
  rw [hw1] at hk2
  have HK2 := Lib.hid hk2
  have cidx := Lib.hid (fun W (hW : Below w.heap.size w W) => sidx_walk NA nc _ names q W (h3.below hW) (by omega))
  clear hb1 hk2 hw1
  by_cases h6 : k = 6
  case neg =>
    have e1 : (k == 6) = false := by simpa using h6
    have e2 : (k != 6) = true := by simpa using h6
    have hg : Hid (getJ (.mk k b n s names kids) q = none) := if_neg h6
    clear h6
    go_enter Tryz.func19, Tryz.ntmps19
    go_wp2_with fail
    refine (cidx.out _ HB2.out).mono ?_
    rintro _ w1 ⟨rfl, rfl⟩
    go_wp2_with (refine wpList_store_blk rfl 27 _ _ rfl (w.heap.size + 1) _ #[.int .i64 0, .bool false, .int .i64 0, .string ⟨#[]⟩, .slice none 0 0, .slice none 0 0] 27 rfl rfl HK2.out rfl jv_size (jv_ones _ _ _ _ _ _ _ _ _ _) ?_)
    refine bodyPost_ret (results_j_t Tryz.results19 _ _ (w.heap.size + 1) _ _ _ _ _ _ rfl HK2.out.setRow) rfl ?_
    rw [hg.out]
    exact getF_none rfl (below_setRow HB2.out (by omega) _)
  subst h6
  cases hf : names.findIdx? (· == q) with
  | none =>
    have hi : idxS q names = -1 := by rw [idxS, hf]
    have hg : Hid (getJ (.mk 6 b n s names kids) q = none) := by
      show _ = _
      rw [getJ, if_pos (show (Jv.mk 6 b n s names kids).kind = 6 from rfl)]
      show (match names.findIdx? (· == q) with | some i => kids[i]? | none => none) = none
      rw [hf]
    rw [hi] at cidx
    clear hi hf
    go_enter Tryz.func19, Tryz.ntmps19
    go_wp2_with fail
    refine (cidx.out _ HB2.out).mono ?_
    rintro _ w1 ⟨rfl, rfl⟩
    go_wp2_with (refine wpList_store_blk rfl 27 _ _ rfl (w.heap.size + 1) _ #[.int .i64 0, .bool false, .int .i64 0, .string ⟨#[]⟩, .slice none 0 0, .slice none 0 0] 27 rfl rfl HK2.out rfl jv_size (jv_ones _ _ _ _ _ _ _ _ _ _) ?_)
    refine bodyPost_ret (results_j_t Tryz.results19 _ _ (w.heap.size + 1) _ _ _ _ _ _ rfl HK2.out.setRow) rfl ?_
    rw [hg.out]
    exact getF_none rfl (below_setRow HB2.out (by omega) _)
  | some i =>
    have hi : idxS q names = (i : Int) := by rw [idxS, hf]
    have hg : Hid (getJ (.mk 6 b n s names kids) q = kids[i]?) := by
      show _ = _
      rw [getJ, if_pos (show (Jv.mk 6 b n s names kids).kind = 6 from rfl)]
      show (match names.findIdx? (· == q) with | some i => kids[i]? | none => none) = _
      rw [hf]
    rw [hi] at cidx
    have hin : i < names.length := by
      rw [List.findIdx?_eq_some_iff_getElem] at hf
      exact hf.1
    have e0 : decide ((i : Int) < 0) = false := by simp
    clear hi hf
    by_cases hlt : i < kids.length
    case neg =>
      have e1 : decide ((kids.length : Int) ≤ (i : Int)) = true := by simp; omega
      have e2 : decide (kids.length ≤ i) = true := by simp; omega
      have hgn : Hid (getJ (.mk 6 b n s names kids) q = none) := by show _ = _; rw [hg.out, List.getElem?_eq_none (by omega)]
      go_enter Tryz.func19, Tryz.ntmps19
      go_wp2_with fail
      refine (cidx.out _ HB2.out).mono ?_
      rintro _ w1 ⟨rfl, rfl⟩
      go_wp2_with (refine wpList_store_blk rfl 27 _ _ rfl (w.heap.size + 1) _ #[.int .i64 0, .bool false, .int .i64 0, .string ⟨#[]⟩, .slice none 0 0, .slice none 0 0] 27 rfl rfl HK2.out rfl jv_size (jv_ones _ _ _ _ _ _ _ _ _ _) ?_)
      refine bodyPost_ret (results_j_t Tryz.results19 _ _ (w.heap.size + 1) _ _ _ _ _ _ rfl HK2.out.setRow) rfl ?_
      rw [hgn.out]
      exact getF_none rfl (below_setRow HB2.out (by omega) _)
    have e1 : decide ((kids.length : Int) ≤ (i : Int)) = false := by simp; omega
    have e2 : decide (kids.length ≤ i) = false := by simp; omega
    obtain ⟨kd, hkd⟩ : ∃ a, kids[i]? = some a := ⟨kids[i], List.getElem?_eq_getElem hlt⟩
    obtain ⟨ad, v, rfl, hva, hcv⟩ := jkid_at h7 h5 hkd
    have hadl := reads_near h5 (by omega) rfl
    have hgs : Hid (getJ (.mk 6 b n s names kids) q = some kd) := by show _ = _; rw [hg.out, hkd]
    have cp := Lib.hid (fun W (hW : Below w.heap.size w W) => own_all kd v W (smJs_all hs7 kd (List.mem_of_getElem? hkd)) (hva.below hW))
    have hcv2 : ∀ j x, v[j]? = some x → ((w.alloc (.cells #[.int .i64 6, .bool b, .int .i64 n, .string y, .slice NA names.length nc, .slice (some ad) kids.length c] 27)).alloc (.cells #[.int .i64 0, .bool false, .int .i64 0, .string ⟨#[]⟩, .slice none 0 0, .slice none 0 0] 27)).cell? ((ad.add (i * 6)).add j) = some x := fun j x hx => (HB2.out.cell (by rw [block_of_add, block_of_add]; exact hadl)).trans (hcv j x hx)
    obtain ⟨k1, b1, n1, s1, NA1, nn1, nc1, A1, m1, c1, rfl⟩ := hva.form
    have HC1 := Lib.hid hcv2
    clear hcv hcv2 hva hkd hg
    go_enter Tryz.func19, Tryz.ntmps19
    go_wp2_with fail
    refine (cidx.out _ HB2.out).mono ?_
    rintro _ w1 ⟨rfl, rfl⟩
    go_wp2_with (refine wpList_load_at rfl 27 _ rfl (ad.add (i * 6)) rfl [.int .i64 k1, .bool b1, .int .i64 n1, .string s1, .slice NA1 nn1 nc1, .slice A1 m1 c1] _ HC1.out Tryz.underlying27 rfl jv_size ?_)
    refine (cp.out _ HB2.out).mono ?_
    rintro _ w5 ⟨cs5, rfl, hv5, hb5⟩
    obtain ⟨k2, b2, n2, s2, NA2, nn2, nc2, A2, m2, c2, rfl⟩ := hv5.form
    have hsz : w.heap.size + 1 < ((w.alloc (.cells #[.int .i64 6, .bool b, .int .i64 n, .string y, .slice NA names.length nc, .slice (some ad) kids.length c] 27)).alloc (.cells #[.int .i64 0, .bool false, .int .i64 0, .string ⟨#[]⟩, .slice none 0 0, .slice none 0 0] 27)).heap.size := by simp
    have HK5 := Lib.hid (HK2.out.below hb5 HK2.out.lt)
    have HB5 := Lib.hid (below_next HB2.out hb5)
    have HV5 := Lib.hid hv5
    clear hv5 hb5 cp cidx HC1
    go_wp2_with (refine wpList_store_blk rfl 27 _ _ rfl (w.heap.size + 1) _ _ 27 rfl rfl HK5.out rfl jv_size (jv_ones _ _ _ _ _ _ _ _ _ _) ?_)
    refine bodyPost_ret (results_j_t Tryz.results19 _ _ (w.heap.size + 1) _ _ _ _ _ _ rfl HK5.out.setRow) rfl ?_
    rw [hgs.out]
    exact ⟨_, rfl, (HV5.out.grown (setRow_only w5 (w.heap.size + 1) _) (fun q e => by injection e with e; omega)).low (by simp; omega), below_setRow HB5.out (by omega) _⟩
/-- values in blocks of the call's own, and other blocks -/
structure StA (w : World) (L : List (Nat × Jv × List Value)) (M : List (Nat × TypeId × Array Value)) (W : World) : Prop where
  laid : LaidB W W.heap.size
  below : Below w.heap.size w W
  vals : ∀ p ∈ L, Blk W p.1 27 p.2.2.toArray ∧ JvV W 0 p.2.1 p.2.2
  blks : ∀ p ∈ M, Blk W p.1 p.2.1 p.2.2
section
variable {w W W' : World} {L : List (Nat × Jv × List Value)} {M : List (Nat × TypeId × Array Value)}
theorem StA.next (h : StA w L M W) (hb : Below W.heap.size W W') : StA w L M W' :=
  ⟨(h.laid.below hb).up, below_next h.below hb, fun p hp => ⟨(h.vals p hp).1.below hb (h.vals p hp).1.lt, (h.vals p hp).2.below hb⟩, fun p hp => (h.blks p hp).below hb (h.blks p hp).lt⟩
theorem StA.alloc (h : StA w L M W) (o : Obj) : StA w L M (W.alloc o) := h.next (alloc_below W o)
theorem StA.block (h : StA w L M W) (t : TypeId) (cs : Array Value) : StA w L ((W.heap.size, t, cs) :: M) (W.alloc (.cells cs t)) := by
  have h2 := h.alloc (.cells cs t)
  refine ⟨h2.laid, h2.below, h2.vals, fun p hp => ?_⟩
  rcases List.mem_cons.1 hp with rfl | hp
  · exact Blk.new W t cs
  · exact h2.blks p hp
theorem StA.push (h : StA w L M W) {v : Jv} {cs : List Value} {Z : Array Value} (hb : Below (W.heap.size + 1) (W.alloc (.cells Z 27)) W') (hv : JvP W' (fun b => b ≠ W.heap.size) v cs) :
    StA w ((W.heap.size, v, cs) :: L) M (W'.setRow W.heap.size cs.toArray) := by
  have hk := (Blk.new W 27 Z).below hb (Nat.lt_succ_self _)
  have hsr := setRow_only W' W.heap.size cs.toArray
  have h3 : Below W.heap.size W (W'.setRow W.heap.size cs.toArray) := below_setRow ((alloc_below W _).trans (hb.mono (Nat.le_succ _))) (Nat.le_refl _) _
  have h4 := h.next h3
  refine ⟨h4.laid, h4.below, fun p hp => ?_, h4.blks⟩
  rcases List.mem_cons.1 hp with rfl | hp
  · exact ⟨hk.setRow, JvP.toV (fun _ _ => Nat.zero_le _) _ _ (JvP.keep (D' := fun b => b ≠ W.heap.size) (fun q hq hd => World.cell?_of_block (hsr.block _ hq (fun e => by injection e with e; exact hd e))) (fun _ _ h => h) hsr.size _ _ hv)⟩
  · exact h4.vals p hp
theorem StA.value (h : StA w L M W) {v : Jv} {cs : List Value} {lo : Nat} (hv : JvV W lo v cs) : StA w ((W.heap.size, v, cs) :: L) M (W.alloc (.cells cs.toArray 27)) := by
  have h2 := h.alloc (.cells cs.toArray 27)
  refine ⟨h2.laid, h2.below, fun p hp => ?_, h2.blks⟩
  rcases List.mem_cons.1 hp with rfl | hp
  · exact ⟨Blk.new W _ _, (hv.below (alloc_below W _)).low (Nat.zero_le _)⟩
  · exact h2.vals p hp
theorem JvP.below {D : Nat → Prop} {v : Jv} {cs : List Value} (h : JvP W D v cs) (hb : Below W.heap.size W W') : JvP W' D v cs := JvP.keep (fun p hp _ => hb.cell hp) (fun _ _ h => h) hb.size _ _ h
theorem JvP.weak {D D' : Nat → Prop} {v : Jv} {cs : List Value} (h : JvP W D v cs) (hd : ∀ b, D b → D' b) : JvP W D' v cs := JvP.keep (fun _ _ _ => rfl) (fun b _ => hd b) (Nat.le_refl _) _ _ h
/-- as StA, with all that is known in blocks below B0 -/
structure StB (B0 : Nat) (w : World) (L : List (Nat × Jv × List Value)) (M : List (Nat × TypeId × Array Value)) (W : World) : Prop where
  st : StA w L M W
  laid : LaidB W B0
  rows : ∀ p ∈ L, p.1 < B0 ∧ JvP W (fun b => b < B0) p.2.1 p.2.2
  blks : ∀ p ∈ M, p.1 < B0
  le : B0 ≤ W.heap.size
  lo : w.heap.size ≤ B0
theorem StA.toB (h : StA w L M W) : StB W.heap.size w L M W :=
  ⟨h, h.laid, fun p hp => ⟨(h.vals p hp).1.lt, JvV.toP (fun b _ hb => hb) _ _ (h.vals p hp).2⟩, fun p hp => (h.blks p hp).lt, Nat.le_refl _, h.below.size⟩
theorem StB.next {B0 : Nat} (h : StB B0 w L M W) (hb : Below W.heap.size W W') : StB B0 w L M W' :=
  ⟨h.st.next hb, h.laid.below hb, fun p hp => ⟨(h.rows p hp).1, (h.rows p hp).2.below hb⟩, h.blks, Nat.le_trans h.le hb.size, h.lo⟩
theorem StB.alloc {B0 : Nat} (h : StB B0 w L M W) (o : Obj) : StB B0 w L M (W.alloc o) := h.next (alloc_below W o)
theorem StB.put {B0 b : Nat} {Z : Array Value} {v : Jv} {cs : List Value} (h : StB B0 w L M W) (hB : B0 ≤ b) (hk : Blk W b 27 Z) (hv : JvP W (fun x => x ≠ b) v cs) : StA w ((b, v, cs) :: L) M (W.setRow b cs.toArray) := by
  have hsr := setRow_only W b cs.toArray
  have hcell : ∀ q : Addr, q.block ≠ b → (W.setRow b cs.toArray).cell? q = W.cell? q := fun q hq => by
    rcases Nat.lt_or_ge q.block W.heap.size with h1 | h1
    · exact World.cell?_of_block (hsr.block _ h1 (fun e => hq (by injection e)))
    · have h2 := hsr.size
      have h3 : (W.setRow b cs.toArray).heap.size = W.heap.size := by simp [World.setRow]
      unfold World.cell?
      rw [Array.getElem?_eq_none (by omega), Array.getElem?_eq_none h1]
  have hlo := h.lo
  refine ⟨(h.laid.grown hsr (fun q e => by injection e with e; omega)).up, below_setRow h.st.below (by omega) _, fun p hp => ?_, fun p hp => ?_⟩
  · rcases List.mem_cons.1 hp with rfl | hp
    · exact ⟨hk.setRow, JvP.toV (fun _ _ => Nat.zero_le _) _ _ (JvP.keep (D' := fun x => x ≠ b) (fun q _ hd => hcell q hd) (fun _ _ h => h) hsr.size _ _ hv)⟩
    · have h1 := h.rows p hp
      exact ⟨(h.st.vals p hp).1.grown hsr (fun e => by injection e with e; omega), JvP.toV (fun _ _ => Nat.zero_le _) _ _ (JvP.keep (D' := fun _ => True) (fun q _ (hd : q.block < B0) => hcell q (by omega)) (fun _ _ _ => trivial) hsr.size _ _ h1.2)⟩
  · have h1 := h.blks p hp
    exact (h.st.blks p hp).grown hsr (fun e => by injection e with e; omega)
theorem StA.sub (h : StA w L M W) {L' : List (Nat × Jv × List Value)} {M' : List (Nat × TypeId × Array Value)} (hl : ∀ p ∈ L', p ∈ L) (hm : ∀ p ∈ M', p ∈ M) : StA w L' M' W := ⟨h.laid, h.below, fun p hp => h.vals p (hl p hp), fun p hp => h.blks p (hm p hp)⟩
theorem StA.cells (h : StA w L M W) {g : Nat} {v : Jv} {cs : List Value} (hp : (g, v, cs) ∈ L) : ∀ j u, cs[j]? = some u → W.cell? ((⟨g, 0, none⟩ : Addr).add j) = some u := blk_cells (h.vals _ hp).1
def objJ (v u : Jv) : Jv := .mk 6 false 0 [] [[97], [98], [99, 49]] [v, u, .mk 4 false 0 [120] [] []]
theorem obj_rows {D : Nat → Prop} {v u : Jv} {csv csu : List Value} {b0 b4 : Nat} (hv : JvP W D v csv) (hu : JvP W D u csu) (h0 : Blk W b0 9 #[.string ⟨#[97]⟩, .string ⟨#[98]⟩, .string ⟨#[99, 49]⟩]) (hd0 : D b0) (hd4 : D b4)
    (h4 : Blk W b4 27 (csv ++ csu ++ ([.int .i64 4, .bool false, .int .i64 0, .string ⟨#[120]⟩, .slice none 0 0, .slice none 0 0] : List Value)).toArray) :
    JvP W D (objJ v u) [.int .i64 6, .bool false, .int .i64 0, .string ⟨#[]⟩, .slice (some ⟨b0, 0, none⟩) 3 3, .slice (some ⟨b4, 0, none⟩) 3 3] := by
  have l1 : csv.length = 6 := (JvP.toV (lo := 0) (fun _ _ => Nat.zero_le _) _ _ hv).len
  have l2 : csu.length = 6 := (JvP.toV (lo := 0) (fun _ _ => Nat.zero_le _) _ _ hu).len
  rw [objJ, JvP]
  refine ⟨some ⟨b0, 0, none⟩, 3, some ⟨b4, 0, none⟩, 3, [csv, csu, [.int .i64 4, .bool false, .int .i64 0, .string ⟨#[120]⟩, .slice none 0 0, .slice none 0 0]], rfl, ⟨Nat.le_refl _, by decide⟩, ⟨Nat.le_refl _, by decide⟩, ?_, fun _ ad e => by injection e with e; subst e; exact hd0, ?_, fun _ ad e => by injection e with e; subst e; exact hd4, ?_⟩
  · refine ⟨by simp [strVs], fun _ => ⟨_, rfl, h0.lt, fun j x hx => ?_⟩⟩
    rw [add_zero_at, h0.cell]
    simpa [strVs, strV] using hx
  · refine ⟨by simp [l1, l2], fun _ => ⟨_, rfl, h4.lt, fun j x hx => ?_⟩⟩
    rw [add_zero_at, h4.cell]
    simpa using hx
  · rw [JvsP]
    refine ⟨csv, _, rfl, hv, ?_⟩
    rw [JvsP]
    refine ⟨csu, _, rfl, hu, ?_⟩
    rw [JvsP]
    exact ⟨_, _, rfl, jvP_leaf W D 4 false 0 [120], by rw [JvsP]⟩
end
end Go.Proofs.YtokgkifckgnabaaGreatDoor
