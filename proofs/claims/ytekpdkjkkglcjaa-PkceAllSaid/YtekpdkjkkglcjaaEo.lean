/- countersignref2's reader: node, all. No condition of its own. -/
import Derived.Test.YtekpdkjkkglcjaaEn
import Derived.Deep.CutBlock
import Derived.Deep.RegionHeld3
set_option linter.unusedVariables false
set_option linter.unusedSimpArgs false
set_option maxRecDepth 20000
namespace Go.Proofs.Ytekpdkjkkglcjaa
open Go.RowKit
/-- the kids that were read stand apart from the row that they are put into -/
def KidsSt (lo : Nat) (wr : World) (v : Value) (i : Nat) (ts : List Tm) (vs : List (List Value)) : Prop :=
  TmsV wr lo ts vs ∧ (i ≤ 1 → ∃ wk : World, TmsV wk lo ts vs ∧ wk.heap.size ≤ wr.heap.size ∧ (∀ p : Addr, p.block < wk.heap.size → lo ≤ p.block → wr.cell? p = wk.cell? p) ∧ (∀ gb, v.ownBlock = some gb → wk.heap.size ≤ gb)) ∧ (i = 0 → v.ownBlock = none)
theorem KidsSt.same {lo : Nat} {wr w' : World} {v : Value} {i : Nat} {ts : List Tm} {vs : List (List Value)} (h : KidsSt lo wr v i ts vs) (hs : wr.heap.size ≤ w'.heap.size) (hk : ∀ p : Addr, p.block < wr.heap.size → lo ≤ p.block → w'.cell? p = wr.cell? p) : KidsSt lo w' v i ts vs := by
  refine ⟨TmsV.keep hk (Nat.le_refl _) hs ts vs h.1, fun hi => ?_, h.2.2⟩
  obtain ⟨wk, h1, h2, h3, h4⟩ := h.2.1 hi
  exact ⟨wk, h1, by omega, fun p hp hl => (hk p (by omega) hl).trans (h3 p hp hl), h4⟩
theorem KidsSt.next {lo : Nat} {wr w5 w6 w' : World} {v v' : Value} {i g : Nat} {ts : List Tm} {vs : List (List Value)} {t : Tm} {cs : List Value} (h : KidsSt lo wr v i ts vs) (hi : i ≤ 1)
    (hg : wr.grownBy w5 (some g)) (hgl : g < lo) (hlo : lo ≤ wr.heap.size) (ht : TmV w5 wr.heap.size t cs) (h56 : Below w5.heap.size w5 w6) (hg6 : w6.grownBy w' v.ownBlock) (hat : v'.ownBlock = v.ownBlock ∨ v'.ownBlock = some w6.heap.size) (hlt : ∀ gb, v.ownBlock = some gb → gb < wr.heap.size) : KidsSt lo w' v' (i + 1) (ts ++ [t]) (vs ++ [cs]) := by
  obtain ⟨wk, h1, h2, h3, h4⟩ := h.2.1 hi
  have s5 := hg.size
  have s6 := h56.size
  have s7 := hg6.size
  have c65 : ∀ p : Addr, p.block < w5.heap.size → w6.cell? p = w5.cell? p := fun p hp => h56.cell hp
  have c76 : ∀ p : Addr, p.block < w6.heap.size → some p.block ≠ v.ownBlock → w'.cell? p = w6.cell? p := fun p hp hne => World.cell?_of_block (hg6.block _ hp hne)
  have c5r : ∀ p : Addr, p.block < wr.heap.size → lo ≤ p.block → w5.cell? p = wr.cell? p := fun p hp hl => World.cell?_of_block (hg.block _ hp (fun e => by injection e with e; omega))
  have ck : ∀ p : Addr, p.block < wk.heap.size → lo ≤ p.block → w'.cell? p = wk.cell? p := fun p hp hl =>
    (c76 p (by omega) (fun e => by have := h4 _ e.symm; omega)).trans ((c65 p (by omega)).trans ((c5r p (by omega) hl).trans (h3 p hp hl)))
  have k1 : TmsV w' lo ts vs := TmsV.keep ck (Nat.le_refl _) (by omega) ts vs h1
  have k2 : TmV w' lo t cs := TmV.keep (fun p hp hl => (c76 p (by omega) (fun e => by have := hlt _ e.symm; omega)).trans (c65 p hp)) hlo (by omega) t cs ht
  refine ⟨TmsV.snoc k2 k1, fun h01 => ?_, fun e => by omega⟩
  have hi0 : i = 0 := by omega
  have hv := h.2.2 hi0
  refine ⟨w5, ?_, by omega, fun p hp hl => (c76 p (by omega) (fun e => by rw [hv] at e; cases e)).trans (c65 p hp), fun gb e => ?_⟩
  · exact TmsV.snoc (ht.low hlo) (TmsV.keep (fun p hp hl => (c5r p (by omega) hl).trans (h3 p hp hl)) (Nat.le_refl _) (by omega) ts vs h1)
  · rcases hat with h | h
    · rw [h, hv] at e; cases e
    · rw [h] at e; injection e with e; omega
/-- the loop over the kids: what holds at each head -/
def NodeSt (d : Nat) (l : List UInt8) (g n : Nat) (R : Except Int (Tm × Nat × Nat)) (w : World) (K : Nat) (kd nm : Int) (s : ByteArray) (i : Nat) (wr : World) : Prop :=
  Hid (w.grownBy wr (some g)) ∧ Hid (Blk wr w.heap.size 35 #[.int .i64 0, .int .i64 0, .string ⟨#[]⟩, .slice none 0 0]) ∧ w.heap.size + 2 ≤ wr.heap.size ∧ ∃ (A : Option Addr) (m cp : Nat), Hid (Blk wr (w.heap.size + 1) 35 #[.int .i64 kd, .int .i64 nm, .string s, .slice A m cp]) ∧
    ((∃ c, Hid (c ≠ 0) ∧ Hid (R = .error c) ∧ Hid (RErr wr g c)) ∨
     (∃ q ts vs q' n', Hid (R = match decK K d l q (n + 1) with | .error e => .error e | .ok (ks, q', n') => .ok (.mk kd nm s ks, q', n')) ∧ m = i ∧ ts.length = i ∧ Hid (decK i d l q (n + 1) = .ok (ts, q', n')) ∧ Hid (RRd wr g l q' n') ∧ Hid (wr.ownsRow (w.heap.size + 2) 35 4 (.slice A m cp) i (List.flatten vs)) ∧ Hid (KidsSt (w.heap.size + 2) wr (.slice A m cp) i ts vs)))
/-- where the ways through the switch meet -/
def NodeMid (d : Nat) (l : List UInt8) (g n : Nat) (R : Except Int (Tm × Nat × Nat)) (w : World) (kv : Value) (wx : World) : Prop :=
  Hid (w.grownBy wx (some g)) ∧ Hid (Blk wx w.heap.size 35 #[.int .i64 0, .int .i64 0, .string ⟨#[]⟩, .slice none 0 0]) ∧ w.heap.size + 2 ≤ wx.heap.size ∧ ∃ (kd nm : Int) (s : ByteArray) (K : Nat), kv = .int .i64 (K : Int) ∧ K ≤ 2 ∧ Hid (Blk wx (w.heap.size + 1) 35 #[.int .i64 kd, .int .i64 nm, .string s, .slice none 0 0]) ∧
    ((K = 0 ∧ ∃ c, Hid (c ≠ 0) ∧ Hid (R = .error c) ∧ Hid (RErr wx g c)) ∨
     (∃ q, Hid (RRd wx g l q (n + 1)) ∧ Hid (K ≠ 0 → nm = 0 ∧ s = ⟨#[]⟩) ∧ Hid (R = match decK K d l q (n + 1) with | .error e => .error e | .ok (ks, q', n') => .ok (.mk kd nm s ks, q', n'))))
theorem RErr.three {w : World} {g : Nat} {e : Int} (h : RErr w g e) : w.cell? ⟨g, 3, none⟩ = some (.int .i64 e) := by
  obtain ⟨v, a, b, hk⟩ := h
  exact hk.cell 3
theorem RRd.three {w : World} {g : Nat} {l : List UInt8} {p n : Nat} (h : RRd w g l p n) : w.cell? ⟨g, 3, none⟩ = some (.int .i64 0) ∧ w.frozen? ⟨g, 3, none⟩ = false := by
  obtain ⟨_, _, _, A, c, _, _, hk, _⟩ := h
  exact ⟨hk.cell 3, hk.frozen 3⟩
theorem RRd.fail {w : World} {g : Nat} {l : List UInt8} {p n : Nat} (h : RRd w g l p n) (e : Int) : RErr (w.setCell ⟨g, 3, none⟩ (.int .i64 e)) g e := by
  obtain ⟨_, _, _, A, c, _, _, hk, _⟩ := h
  exact ⟨_, _, _, hk.set_ 3 (.int .i64 e)⟩
theorem RErr.drewN {w : World} {g : Nat} {e : Int} (h : RErr w g e) (q : Nat) : RErr (w.drewN q) g e := h
theorem RRd.drewN {w : World} {g : Nat} {l : List UInt8} {p n : Nat} (h : RRd w g l p n) (q : Nat) : RRd (w.drewN q) g l p n := h
theorem node_fin {d g n K i q q' n' m5 cp5 : Nat} {l : List UInt8} {R : Except Int (Tm × Nat × Nat)} {w wr w5 w6 : World} {kd nm kd5 nm5 : Int} {s s5 : ByteArray} {A A5 : Option Addr} {cp : Nat} {ts : List Tm} {vs : List (List Value)} {v' : Value}
    (hg : w.grownBy wr (some g)) (hz : Blk wr w.heap.size 35 #[.int .i64 0, .int .i64 0, .string ⟨#[]⟩, .slice none 0 0]) (hsz : w.heap.size + 2 ≤ wr.heap.size) (hx : Blk wr (w.heap.size + 1) 35 #[.int .i64 kd, .int .i64 nm, .string s, .slice A i cp]) (hgl : g < w.heap.size) (hrd : RRd wr g l q' n')
    (hown : wr.ownsRow (w.heap.size + 2) 35 4 (.slice A i cp) i (List.flatten vs)) (hks : KidsSt (w.heap.size + 2) wr (.slice A i cp) i ts vs) (hdk : decK i d l q (n + 1) = .ok (ts, q', n')) (hRd : R = match decK K d l q (n + 1) with | .error e => .error e | .ok (ks, q', n') => .ok (.mk kd nm s ks, q', n')) (hlen : ts.length = i) (hlt : i < K) (hK : K ≤ 2)
    (hg5 : wr.grownBy w5 (some g))
    (hr5 : match decT d l q' n' with | .error c => RErr w5 g c ∧ c ≠ 0 | .ok (t, q, n') => TmV w5 wr.heap.size t [.int .i64 kd5, .int .i64 nm5, .string s5, .slice A5 m5 cp5] ∧ RRd w5 g l q n')
    (hown6 : w6.ownsRow (w.heap.size + 2) 35 4 v' (i + 1) (List.flatten vs ++ [.int .i64 kd5, .int .i64 nm5, .string s5, .slice A5 m5 cp5])) (hg6 : (w5.alloc (.cells #[.int .i64 kd5, .int .i64 nm5, .string s5, .slice A5 m5 cp5] 35)).grownBy w6 (Value.slice A i cp).ownBlock)
    (hat6 : v'.ownBlock = (Value.slice A i cp).ownBlock ∨ v'.ownBlock = some (w5.alloc (.cells #[.int .i64 kd5, .int .i64 nm5, .string s5, .slice A5 m5 cp5] 35)).heap.size) :
    NodeSt d l g n R w K kd nm s (i + 1) (w6.setCell ⟨w.heap.size + 1, 3, none⟩ v') := by
  obtain ⟨A7, c7, rfl, hc7, _⟩ := own_reads hown6 (Nat.le_refl _)
  have hs5 := hg5.size
  have hs6 := hg6.size
  rw [show (w5.alloc (.cells #[.int .i64 kd5, .int .i64 nm5, .string s5, .slice A5 m5 cp5] 35)).heap.size = w5.heap.size + 1 by simp] at hs6
  have h56 : Below w5.heap.size w5 (w5.alloc (.cells #[.int .i64 kd5, .int .i64 nm5, .string s5, .slice A5 m5 cp5] 35)) := (Below.refl _ _).alloc (Nat.le_refl _) _
  have hrow : ∀ k, k < w.heap.size + 2 → some k ≠ (Value.slice A i cp).ownBlock := fun k hk e => by have := (hown.lt _ e.symm).1; omega
  have hx6 : Blk w6 (w.heap.size + 1) 35 #[.int .i64 kd, .int .i64 nm, .string s, .slice A i cp] := ((hx.grown hg5 (fun e => by injection e with e; omega)).alloc _).grown hg6 (hrow _ (by omega))
  have hz6 : Blk w6 w.heap.size 35 #[.int .i64 0, .int .i64 0, .string ⟨#[]⟩, .slice none 0 0] := ((hz.grown hg5 (fun e => by injection e with e; omega)).alloc _).grown hg6 (hrow _ (by omega))
  have hx7 : Blk (w6.setCell ⟨w.heap.size + 1, 3, none⟩ (.slice A7 (i + 1) c7)) (w.heap.size + 1) 35 #[.int .i64 kd, .int .i64 nm, .string s, .slice A7 (i + 1) c7] := hx6.set_ 3 _
  have hz7 := hz6.far (p := ⟨w.heap.size + 1, 3, none⟩) (by show w.heap.size ≠ w.heap.size + 1; omega) (.slice A7 (i + 1) c7)
  have hgA : w.grownBy (w5.alloc (.cells #[.int .i64 kd5, .int .i64 nm5, .string s5, .slice A5 m5 cp5] 35)) (some g) := only_alloc (only_trans hg hg5) _
  have hg7 := only_setCell (p := ⟨w.heap.size + 1, 3, none⟩) (only_grown hgA hg6 (fun q e => by have := (hown.lt q e).1; omega)) (.inr (Nat.le_succ _)) (.slice A7 (i + 1) c7)
  have hsz7 : (w6.setCell ⟨w.heap.size + 1, 3, none⟩ (.slice A7 (i + 1) c7)).heap.size = w6.heap.size := by simp [World.setCell]
  refine ⟨hg7, hz7, by rw [hsz7]; omega, A7, i + 1, c7, hx7, ?_⟩
  cases hD : decT d l q' n' with
  | error c =>
    rw [hD] at hr5
    obtain ⟨v, a, b, hk⟩ := hr5.1
    refine .inl ⟨c, hr5.2, ?_, v, a, b, ?_⟩
    · show _ = _
      rw [hRd, show K = i + (1 + (K - i - 1)) by omega, decK_add, hdk]
      simp only
      rw [decK_add, decK_one, hD]
    · exact ((hk.alloc _).grown hg6 (hrow _ (by omega))).far (by show g ≠ w.heap.size + 1; omega) _
  | ok r =>
    obtain ⟨t, q2, n2⟩ := r
    rw [hD] at hr5
    obtain ⟨htv, hrd5⟩ := hr5
    have hks7 := hks.next (by omega) hg5 (by omega) hsz htv h56 hg6 hat6 (fun gb e => (hown.lt gb e).2)
    refine .inr ⟨q, ts ++ [t], vs ++ [[.int .i64 kd5, .int .i64 nm5, .string s5, .slice A5 m5 cp5]], q2, n2, hRd, rfl, by rw [List.length_append, hlen]; rfl, ?_, ?_, ?_, ?_⟩
    · show _ = _
      rw [decK_add, hdk]
      simp only
      rw [decK_one, hD]
    · refine RRd.grown (w := w6) ?_ (only_setCell (p := ⟨w.heap.size + 1, 3, none⟩) (only_refl w6 (some (w.heap.size + 1))) (.inl rfl) _) (fun q e => by injection e with e; omega)
      exact (hrd5.grown (only_alloc (only_refl w5 none) (.cells #[.int .i64 kd5, .int .i64 nm5, .string s5, .slice A5 m5 cp5] 35)) (fun q e => by cases e)).grown hg6 (fun q e => by have := (hown.lt q e).1; omega)
    · show World.ownsRow _ _ _ _ _ _ _
      rw [List.flatten_append]
      have := own_only (g := w.heap.size + 1) hown6 (only_setCell (p := ⟨w.heap.size + 1, 3, none⟩) (only_refl w6 (some (w.heap.size + 1))) (.inl rfl) (.slice A7 (i + 1) c7)) (by omega)
      simpa using this
    · exact hks7.same (by rw [hsz7]; exact Nat.le_refl _) (fun p hp hl => World.cell?_setCell_other w6 _ _ _ (fun e => by rw [← e] at hl; simp at hl <;> omega))
set_option maxRecDepth 20000 in
set_option maxHeartbeats 8000000 in
theorem node_succ (d : Nat) (hd16 : d ≤ 16) (hT : RTermOk d) : RTermOk (d + 1) := by
  intro l g p n deep w hdp h
  by_cases h64 : n = 64
  · rw [decT, if_pos (by omega)]
    exact node_big l g p n deep w h (.inl h64) (by omega) (by omega)
  have hnn : n ≤ 64 := h.2.2.1
  obtain ⟨R, hR⟩ : ∃ R, decT (d + 1) l p n = R := ⟨_, rfl⟩
  rw [hR]
  rw [decT, if_neg (by omega)] at hR
  have HRR := Lib.hid hR
  clear hR
  have hgl := h.lt
  obtain ⟨h1, h2, h3, A, c, hc, hc2, hk, hr⟩ := h
  have hn64 : n < 64 := by omega
  have e1 : decide (64 - (n : Int) < 1) = false := by simp; omega
  have e2 : decide (16 < deep) = false := by simp; omega
  have c2 : w.cell? ⟨g, 2, none⟩ = some (.int .i64 (64 - (n : Int))) := hk.cell 2
  have c3 : w.cell? ⟨g, 3, none⟩ = some (.int .i64 0) := hk.cell 3
  have hwd : True → wrap64 (deep + 1) = deep + 1 := fun _ => by unfold wrap64; omega
  have hdp1 : deep + 1 + (d : Int) = 17 := by omega
  have HB0 := Lib.hid (Blk.new w 35 #[.int .i64 0, .int .i64 0, .string ⟨#[]⟩, .slice none 0 0])
  have HG0 := Lib.hid (only_alloc (only_refl w (some g)) (.cells #[.int .i64 0, .int .i64 0, .string ⟨#[]⟩, .slice none 0 0] 35))
  have HK0 := Lib.hid (hk.alloc (.cells #[.int .i64 0, .int .i64 0, .string ⟨#[]⟩, .slice none 0 0] 35))
  have hs2 : (w.alloc (.cells #[.int .i64 0, .int .i64 0, .string ⟨#[]⟩, .slice none 0 0] 35)).heap.size = w.heap.size + 1 := by simp
  have hr0 := (hr.below ((Below.refl g w).alloc (by omega) (.cells #[.int .i64 0, .int .i64 0, .string ⟨#[]⟩, .slice none 0 0] 35)))
  have HR0 := Lib.hid hr0
  have HSZ := Lib.hid hs2
  clear hk hr hs2 hdp h64 hr0
  go_enter Try.func68, Try.ntmps68
  go_upto_region 3 with (fail)
  generalize w.alloc (.cells #[.int .i64 0, .int .i64 0, .string ⟨#[]⟩, .slice none 0 0] 35) = W at HB0 HG0 HK0 HR0 HSZ ⊢
  have hk1 := HK0.out.alloc (.cells #[.int .i64 0, .int .i64 0, .string ⟨#[]⟩, .slice none 0 0] 35)
  have d2 : (W.alloc (.cells #[.int .i64 0, .int .i64 0, .string ⟨#[]⟩, .slice none 0 0] 35)).cell? ⟨g, 2, none⟩ = some (.int .i64 (64 - (n : Int))) := hk1.cell 2
  have d3 : (W.alloc (.cells #[.int .i64 0, .int .i64 0, .string ⟨#[]⟩, .slice none 0 0] 35)).cell? ⟨g, 3, none⟩ = some (.int .i64 0) := hk1.cell 3
  have f2 := hk1.frozen 2
  have hwn : True → wrap64 (64 - (n : Int) - 1) = 64 - ((n + 1 : Nat) : Int) := fun _ => by unfold wrap64; omega
  clear c2 c3
  go_upto_region 7 with (refine wpList_store_fresh W rfl 35 _ _ rfl _ #[.int .i64 0, .int .i64 0, .string ⟨#[]⟩, .slice none 0 0] _ rfl rfl rfl term_size (ones4 _ _ _ _ _ _) ?_)
  rw [show (64 - (n : Int) - 1) = 64 - ((n + 1 : Nat) : Int) by omega]
  have hk2 : Blk ((W.alloc (.cells #[.int .i64 0, .int .i64 0, .string ⟨#[]⟩, .slice none 0 0] 35)).setCell ⟨g, 2, none⟩ (.int .i64 (64 - ((n + 1 : Nat) : Int)))) g 93 #[.slice A l.length c, .int .i64 (p : Int), .int .i64 (64 - ((n + 1 : Nat) : Int)), .int .i64 0] := hk1.set_ 2 (.int .i64 (64 - ((n + 1 : Nat) : Int)))
  have HG2 := Lib.hid (only_setCell (p := ⟨g, 2, none⟩) (only_alloc HG0.out (.cells #[.int .i64 0, .int .i64 0, .string ⟨#[]⟩, .slice none 0 0] 35)) (.inl rfl) (.int .i64 (64 - ((n + 1 : Nat) : Int))))
  have HZ0 := Lib.hid ((HB0.out.alloc (.cells #[.int .i64 0, .int .i64 0, .string ⟨#[]⟩, .slice none 0 0] 35)).far (p := ⟨g, 2, none⟩) (by show w.heap.size ≠ g; omega) (.int .i64 (64 - ((n + 1 : Nat) : Int))))
  have hz1 := (Blk.new W 35 #[.int .i64 0, .int .i64 0, .string ⟨#[]⟩, .slice none 0 0]).far (p := ⟨g, 2, none⟩) (by show W.heap.size ≠ g; rw [HSZ.out]; omega) (.int .i64 (64 - ((n + 1 : Nat) : Int)))
  rw [HSZ.out] at hz1 ⊢
  have HZ1 := Lib.hid hz1
  have HR2 : Hid (Reads ((W.alloc (.cells #[.int .i64 0, .int .i64 0, .string ⟨#[]⟩, .slice none 0 0] 35)).setCell ⟨g, 2, none⟩ (.int .i64 (64 - ((n + 1 : Nat) : Int)))) g 1 A l.length (Lib.byteCells l)) := (HR0.out.below ((Below.refl g W).alloc (by rw [HSZ.out]; omega) (.cells #[.int .i64 0, .int .i64 0, .string ⟨#[]⟩, .slice none 0 0] 35))).setCell (Nat.le_refl _) _
  have HRD : Hid (RRd ((W.alloc (.cells #[.int .i64 0, .int .i64 0, .string ⟨#[]⟩, .slice none 0 0] 35)).setCell ⟨g, 2, none⟩ (.int .i64 (64 - ((n + 1 : Nat) : Int)))) g l p (n + 1)) := ⟨h1, h2, by omega, A, c, hc, hc2, hk2, HR2.out⟩
  have hs2 : w.heap.size + 2 ≤ ((W.alloc (.cells #[.int .i64 0, .int .i64 0, .string ⟨#[]⟩, .slice none 0 0] 35)).setCell ⟨g, 2, none⟩ (.int .i64 (64 - ((n + 1 : Nat) : Int)))).heap.size := by
    have := HSZ.out
    simp [World.setCell, this]
  generalize (W.alloc (.cells #[.int .i64 0, .int .i64 0, .string ⟨#[]⟩, .slice none 0 0] 35)).setCell ⟨g, 2, none⟩ (.int .i64 (64 - ((n + 1 : Nat) : Int))) = W2 at HG2 HZ0 HZ1 HRD hs2 ⊢
  clear hk1 hk2 hz1 HR2 HB0 HG0 HK0 HR0 HSZ d2 d3 f2 hwn
  have cn := Lib.hid (rnum_walk l g p (n + 1) 1 W2 HRD.out (by omega))
  go_wp2_with fail
  refine cn.out.mono ?_
  rintro _ w1 ⟨hg1, ⟨hs, rfl, hre⟩ | ⟨hs, rfl, hrd1⟩⟩
  · have HE := Lib.hid hre
    have r3 := hre.three
    have hz1 := HZ1.out.grown hg1 (fun e => by injection e with e; omega)
    have hz0 := HZ0.out.grown hg1 (fun e => by injection e with e; omega)
    have kf := hz1.frozen 0
    have k0 : w1.cell? ⟨w.heap.size + 1, 0, none⟩ = some (.int .i64 0) := hz1.cell 0
    have hb2 : Blk (w1.setCell ⟨w.heap.size + 1, 0, none⟩ (.int .i64 0)) (w.heap.size + 1) 35 #[.int .i64 0, .int .i64 0, .string ⟨#[]⟩, .slice none 0 0] := hz1.set_ 0 (.int .i64 0)
    have hb0 := hz0.far (p := ⟨w.heap.size + 1, 0, none⟩) (by show w.heap.size ≠ w.heap.size + 1; omega) (.int .i64 0)
    have HG := Lib.hid (only_setCell (p := ⟨w.heap.size + 1, 0, none⟩) (only_trans HG2.out hg1) (.inr (Nat.le_succ _)) (.int .i64 0))
    have he1 : RErr (w1.setCell ⟨w.heap.size + 1, 0, none⟩ (.int .i64 0)) g 1 := hre.grown (only_setCell (p := ⟨w.heap.size + 1, 0, none⟩) (only_refl w1 (some (w.heap.size + 1))) (.inl rfl) (.int .i64 0)) (fun q e => by injection e with e; omega)
    have HRE : Hid (R = .error 1) := by
      have h := HRR.out
      rw [List.getElem?_eq_none (show l.length ≤ p by omega)] at h
      exact h.symm
    clear hz1 hz0 hre hg1 HRR cn r3 HE
    go_upto_block 0 with (fail)
    generalize w1.setCell ⟨w.heap.size + 1, 0, none⟩ (.int .i64 0) = W3 at hb2 hb0 HG he1 ⊢
    have r3 := he1.three
    have HB2 := Lib.hid hb2
    have HB0 := Lib.hid hb0
    have HE1 := Lib.hid he1
    clear hb2 hb0 he1 k0 kf
    go_wp2_with fail
    go_loopw [8] (fun iv wr => iv = .int .i64 0 ∧ W3 = wr) (fun _ _ => 0)
    case atStart => exact ⟨rfl, rfl⟩
    case round =>
      obtain ⟨rfl, rfl⟩ := hrel
      have hxx := HB2.out
      have hzz := HB0.out
      go_wp2_with (first
        | (refine wpList_load_at rfl 35 _ rfl ⟨w.heap.size + 1, 0, none⟩ rfl [.int .i64 0, .int .i64 0, .string ⟨#[]⟩, .slice none 0 0] _ (blk_cells hxx) Try.underlying35 rfl term_size ?_)
        | (refine wpList_store_blk rfl 35 _ _ rfl w.heap.size _ #[.int .i64 0, .int .i64 0, .string ⟨#[]⟩, .slice none 0 0] _ rfl rfl hzz rfl term_size (ones4 _ _ _ _ _ _) ?_))
      refine bodyPost_ret (results_cell_row Try.results68 _ _ w.heap.size _ _ _ _ rfl hzz.setRow Try.underlying35 rfl (by kernel_rfl)) rfl ?_
      exact ⟨only_setRow HG.out (Nat.le_refl _) _, 0, 0, ⟨#[]⟩, none, 0, 0, rfl, by rw [HRE.out]; exact ⟨HE1.out.grown (setRow_only _ w.heap.size _) (fun q e => by injection e with e; omega), by decide⟩⟩
  · have hb1 := HZ1.out.grown hg1 (fun e => by injection e with e; omega)
    have hb0 := HZ0.out.grown hg1 (fun e => by injection e with e; omega)
    obtain ⟨x, hx⟩ : ∃ x, beN ((l.drop p).take 1) = x := ⟨_, rfl⟩
    have hx2 : ∃ b : UInt8, l[p]? = some b ∧ b.toNat = x := by
      have hpl : p < l.length := by omega
      refine ⟨l[p], List.getElem?_eq_getElem hpl, ?_⟩
      rw [← hx, List.drop_eq_getElem_cons hpl, List.take_succ_cons, List.take_zero]
      simp [beN]
    obtain ⟨b, hb, hbx⟩ := hx2
    have hx256 : x < 256 := by rw [← hbx]; exact b.toNat_lt
    have HB := Lib.hid hb
    have HBX := Lib.hid hbx
    rw [hx]
    clear hb hbx hx
    have k0 : w1.cell? ⟨w.heap.size + 1, 0, none⟩ = some (.int .i64 0) := hb1.cell 0
    have kf := hb1.frozen 0
    have hb2 : Blk (w1.setCell ⟨w.heap.size + 1, 0, none⟩ (.int .i64 (x : Int))) (w.heap.size + 1) 35 #[.int .i64 (x : Int), .int .i64 0, .string ⟨#[]⟩, .slice none 0 0] := hb1.set_ 0 (.int .i64 (x : Int))
    have HX1 := Lib.hid hb2
    have HX0 := Lib.hid (hb0.far (p := ⟨w.heap.size + 1, 0, none⟩) (by show w.heap.size ≠ w.heap.size + 1; omega) (.int .i64 (x : Int)))
    have hgs := hg1.size
    have HG := Lib.hid (only_setCell (p := ⟨w.heap.size + 1, 0, none⟩) (only_trans HG2.out hg1) (.inr (Nat.le_succ _)) (.int .i64 (x : Int)))
    have HRT := Lib.hid (hrd1.grown (only_setCell (p := ⟨w.heap.size + 1, 0, none⟩) (only_refl w1 (some (w.heap.size + 1))) (.inl rfl) (.int .i64 (x : Int))) (fun q e => by injection e with e; omega))
    have hsz2 : w.heap.size + 2 ≤ (w1.setCell ⟨w.heap.size + 1, 0, none⟩ (.int .i64 (x : Int))).heap.size := by simp [World.setCell]; omega
    clear hg1 hrd1 hb1 hb0 hb2 HG2 HZ0 HZ1 HRD cn
    go_upto_block 0 with (fail)
    generalize w1.setCell ⟨w.heap.size + 1, 0, none⟩ (.int .i64 (x : Int)) = W3 at HX1 HX0 HG HRT hsz2 ⊢
    have HRX : Hid ((if x = 1 then (match atomT l (p + 1) with | .error e => .error e | .ok (s, q) => .ok (.mk 1 0 s [], q, n + 1)) else if x = 2 then (match numT l (p + 1) 4 1073741824 with | .error e => .error e | .ok (m, q) => .ok (.mk 2 m ⟨#[]⟩ [], q, n + 1)) else if x = 3 ∨ x = 4 then (match decK 1 d l (p + 1) (n + 1) with | .error e => .error e | .ok (ks, q, n') => .ok (.mk x 0 ⟨#[]⟩ ks, q, n')) else if x = 5 ∨ x = 6 ∨ x = 7 then (match decK 2 d l (p + 1) (n + 1) with | .error e => .error e | .ok (ks, q, n') => .ok (.mk x 0 ⟨#[]⟩ ks, q, n')) else .error 2) = R) := by
      have h := HRR.out
      rw [HB.out] at h
      simp only [HBX.out] at h
      exact h
    clear HRR HB HBX k0 kf
    go_cut [6, 7] (fun kv tv wx => NodeMid d l g n R w kv wx)
    case first =>
      obtain ⟨r3, f3⟩ := HRT.out.three
      rcases show x = 1 ∨ x = 2 ∨ x = 3 ∨ x = 4 ∨ x = 5 ∨ x = 6 ∨ x = 7 ∨ (x ≠ 1 ∧ x ≠ 2 ∧ x ≠ 3 ∧ x ≠ 4 ∧ x ≠ 5 ∧ x ≠ 6 ∧ x ≠ 7) by omega with hc | hc | hc | hc | hc | hc | hc | hc
      · have y1 : ((x : Int) == 1) = true := by rw [beq_iff_eq]; omega
        have y2 : ((x : Int) == 2) = false := by rw [beq_eq_false_iff_ne]; omega
        have y3 : ((x : Int) == 3) = false := by rw [beq_eq_false_iff_ne]; omega
        have y4 : ((x : Int) == 4) = false := by rw [beq_eq_false_iff_ne]; omega
        have y5 : ((x : Int) == 5) = false := by rw [beq_eq_false_iff_ne]; omega
        have y6 : ((x : Int) == 6) = false := by rw [beq_eq_false_iff_ne]; omega
        have y7 : ((x : Int) == 7) = false := by rw [beq_eq_false_iff_ne]; omega
        have HC := Lib.hid hc
        clear hc
        have cm := Lib.hid (rnum_walk l g (p + 1) (n + 1) 2 W3 HRT.out (by omega))
        clear r3 f3
        go_wp2_with fail
        refine cm.out.mono ?_
        rintro _ w4 ⟨hg4, ⟨hs4, rfl, hre⟩ | ⟨hs4, rfl, hrd4⟩⟩
        · have HX2 := Lib.hid (HX1.out.grown hg4 (fun e => by injection e with e; omega))
          have HXZ := Lib.hid (HX0.out.grown hg4 (fun e => by injection e with e; omega))
          have hgs := hg4.size
          have r3 := hre.three
          have HG4 := Lib.hid (only_trans HG.out hg4)
          have HE4 := Lib.hid hre
          have HS4 := Lib.hid hs4
          clear hg4 hre cm hs4
          go_wp2_with fail
          go_quiet (fail)
          go_wp2_with fail
          go_meet
          refine ⟨only_drewN HG4.out _, HXZ.out.drewN _, by show _ ≤ w4.heap.size; omega, x, 0, ⟨#[]⟩, 0, rfl, by omega, HX2.out.drewN _, .inl ⟨rfl, 1, (by show (1 : Int) ≠ 0; decide), ?_, HE4.out.drewN _⟩⟩
          show _ = _
          rw [← HRX.out]
          have := HC.out
          rw [if_pos (by omega), atomT, numT, if_pos HS4.out]
        · obtain ⟨m, hm⟩ : ∃ m, beN ((l.drop (p + 1)).take 2) = m := ⟨_, rfl⟩
          have hm4 : m < 4294967296 := by rw [← hm]; exact be4 _ (by rw [List.length_take]; omega)
          have HM := Lib.hid hm
          rw [hm]
          clear hm
          have HX2 := Lib.hid (HX1.out.grown hg4 (fun e => by injection e with e; omega))
          have HXZ := Lib.hid (HX0.out.grown hg4 (fun e => by injection e with e; omega))
          have hgs := hg4.size
          have HG4 := Lib.hid (only_trans HG.out hg4)
          have HR4 := Lib.hid hrd4
          obtain ⟨d3, f3⟩ := hrd4.three
          obtain ⟨_, q2, _, A4, c4, hc4, hc5, hk4, hr4⟩ := hrd4
          have HK4 := Lib.hid hk4
          have d0 : w4.cell? ⟨g, 0, none⟩ = some (.slice A4 l.length c4) := hk4.cell 0
          have d1 : w4.cell? ⟨g, 1, none⟩ = some (.int .i64 ((p + 1 + 2 : Nat) : Int)) := hk4.cell 1
          have fz1 := hk4.frozen 1
          have HRD4 := Lib.hid hr4
          have HS4 := Lib.hid hs4
          clear hg4 hk4 cm hs4 hr4
          by_cases hmm : 1024 < m
          · have hmi : decide ((1024 : Int) < (m : Int)) = true := by simp; omega
            have hmi2 : (1024 : Int) < (m : Int) := by omega
            have HE4 := Lib.hid (HR4.out.fail 3)
            have d3' : (w4.setCell ⟨g, 3, none⟩ (.int .i64 3)).cell? ⟨g, 3, none⟩ = some (.int .i64 3) := HE4.out.three
            go_wp2_with fail
            go_quiet (fail)
            go_wp2_with fail
            go_meet
            refine ⟨only_drewN (only_setCell HG4.out (.inl rfl) _) _, (HXZ.out.far (by show w.heap.size ≠ g; omega) _).drewN _, by simp [World.setCell]; omega, x, 0, ⟨#[]⟩, 0, rfl, by omega, (HX2.out.far (by show w.heap.size + 1 ≠ g; omega) _).drewN _, .inl ⟨rfl, 3, (by show (3 : Int) ≠ 0; decide), ?_, HE4.out.drewN _⟩⟩
            show _ = _
            rw [← HRX.out]
            have := HC.out
            have := HS4.out
            rw [if_pos (by omega), atomT, numT, if_neg (by omega), HM.out, if_pos hmm]
          · have hmi : decide ((1024 : Int) < (m : Int)) = false := by simp; omega
            have hmi2 : ¬ (1024 : Int) < (m : Int) := by omega
            have hwr : True → IntKind.i64.wrap ((l.length : Int) - ((p + 1 + 2 : Nat) : Int)) = (l.length : Int) - ((p + 1 + 2 : Nat) : Int) := fun _ => by rw [IntKind.wrap_i64]; omega
            have hwr2 : True → IntKind.i64.wrap ((l.length : Int) - ((p : Int) + 1 + 2)) = (l.length : Int) - ((p : Int) + 1 + 2) := fun _ => by rw [IntKind.wrap_i64]; omega
            by_cases hsh : l.length < p + 1 + 2 + m
            · have hd : decide ((l.length : Int) - ((p + 1 + 2 : Nat) : Int) < (m : Int)) = true := by simp; omega
              have hd2 : decide ((l.length : Int) - ((p : Int) + 1 + 2) < (m : Int)) = true := by simp; omega
              have HE4 : Hid (∀ q, RErr ((w4.drewN q).setCell ⟨g, 3, none⟩ (.int .i64 1)) g 1) := fun q => (HR4.out.drewN q).fail 1
              go_wp2_with fail
              go_quiet (fail)
              go_wp2_with fail
              have d3' := (HE4.out nq).three
              go_wp2_with fail
              go_meet
              refine ⟨only_setCell (only_drewN HG4.out _) (.inl rfl) _, (HXZ.out.drewN _).far (by show w.heap.size ≠ g; omega) _, by simp [World.setCell]; omega, x, 0, ⟨#[]⟩, 0, rfl, by omega, (HX2.out.drewN _).far (by show w.heap.size + 1 ≠ g; omega) _, .inl ⟨rfl, 1, (by show (1 : Int) ≠ 0; decide), ?_, HE4.out _⟩⟩
              show _ = _
              rw [← HRX.out]
              have := HC.out
              have := HS4.out
              rw [if_pos (by omega), atomT, numT, if_neg (by omega), HM.out, if_neg hmm]
              simp only [if_pos hsh]
            · have hd : decide ((l.length : Int) - ((p + 1 + 2 : Nat) : Int) < (m : Int)) = false := by simp; omega
              have hd2 : decide ((l.length : Int) - ((p : Int) + 1 + 2) < (m : Int)) = false := by simp; omega
              obtain ⟨bb, oo, rfl, _⟩ := HRD4.out.byte (k := 0) (by omega)
              have z1 : (0 : Int) ≤ (p : Int) + 1 + 2 := by omega
              have z2 : (p : Int) + 1 + 2 ≤ (p : Int) + 1 + 2 + (m : Int) := by omega
              have z3 : (p : Int) + 1 + 2 + (m : Int) ≤ (c4 : Int) := by omega
              have z5 : ((p : Int) + 1 + 2).toNat = p + 1 + 2 := by omega
              have z6 : ((p : Int) + 1 + 2 + (m : Int)).toNat = p + 1 + 2 + m := by omega
              have hrc := (HRD4.out.cutB (k := p + 1 + 2) (cap := c4) (by omega) hc4).frontB (k := m) (by omega)
              obtain ⟨A6, hA6⟩ : ∃ A6, (if c4 = p + 1 + 2 then some (⟨bb, oo, none⟩ : Addr) else some ⟨bb, oo + (p + 1 + 2), none⟩) = A6 := ⟨_, rfl⟩
              obtain ⟨c6, hc6⟩ : ∃ c6, c4 - (p + 1 + 2) = c6 := ⟨_, rfl⟩
              replace hrc : Reads w4 g 1 A6 m (Lib.byteCells ((l.drop (p + 1 + 2)).take m)) := by rw [← hA6]; exact hrc
              have HA6 := Lib.hid hA6
              have HC6 := Lib.hid hc6
              clear hA6 hc6
              have HCV : Hid (∀ W, Below w4.heap.size w4 W → (convert 49 9 (.slice A6 m c6)).run Try.prog W = .ok (.string ⟨((l.drop (p + 1 + 2)).take m).toArray⟩) W) := fun W h =>
                reads_str (hrc.below (h.mono (by omega))) _ _ 5 Try.underlying49 Try.underlying5 Try.underlying9
              have HCV2 : Hid (∀ k v, (convert 49 9 (.slice A6 m c6)).run Try.prog ((w4.drewN k).setCell ⟨w.heap.size + 1, 2, none⟩ v) = .ok (.string ⟨((l.drop (p + 1 + 2)).take m).toArray⟩) ((w4.drewN k).setCell ⟨w.heap.size + 1, 2, none⟩ v)) := fun k v =>
                reads_str (Reads.setCell (p := ⟨w.heap.size + 1, 2, none⟩) (show Reads (w4.drewN k) g 1 A6 m (Lib.byteCells ((l.drop (p + 1 + 2)).take m)) from hrc) (by show g ≤ w.heap.size + 1; omega) v) _ _ 5 Try.underlying49 Try.underlying5 Try.underlying9
              clear hrc
              have k2 : w4.cell? ⟨w.heap.size + 1, 2, none⟩ = some (.string ⟨#[]⟩) := HX2.out.cell 2
              have kf2 := HX2.out.frozen 2
              have z4 : True → IntKind.i64.wrap ((p : Int) + 1 + 2 + (m : Int)) = (p : Int) + 1 + 2 + (m : Int) := fun _ => by rw [IntKind.wrap_i64]; omega
              go_wp2_with fail
              go_quiet (fail)
              go_wp2_with fail
              refine wp_region_held_drew (S := fun W => W.cell? ⟨g, 0, none⟩ = some (.slice (some ⟨bb, oo, none⟩) l.length c4) ∧ W.cell? ⟨g, 1, none⟩ = some (.int .i64 ((p + 1 + 2 : Nat) : Int)) ∧ (convert 49 9 (.slice A6 m c6)).run Try.prog W = .ok (.string ⟨((l.drop (p + 1 + 2)).take m).toArray⟩) W) (by kernel_rfl) ⟨d0, d1, HCV.out _ (below_drewN (below_drewN (Below.refl _ _) nq) 1)⟩ (fun hHeld => ?_)
              first | (refine wpAnyH_take (i := 0) (v := _) rfl (by kernel_rfl) (by kernel_rfl) (by kernel_rfl) (fun _ _ _ h => h) (Or.inr ⟨?_, rfl⟩) (by assumption) ?_; rfl) | (refine wpAnyH_take (i := 0) (v := ?_) rfl (by kernel_rfl) (by kernel_rfl) (by kernel_rfl) (fun _ _ _ h => h) (Or.inl ⟨?_, ?_⟩) (by assumption) ?_; rotate_left; rfl; focus (intro w hSw; (try dsimp only at hSw); go_simp; all_goals (with_reducible rfl)))
              (try simp only [List.getElem_toArray, List.getElem_cons_zero, List.getElem_cons_succ, Act.put, List.setIfInBounds_toArray, List.set_cons_zero, List.set_cons_succ])
              first | (refine wpAnyH_take (i := 1) (v := _) rfl (by kernel_rfl) (by kernel_rfl) (by kernel_rfl) (fun _ _ _ h => h) (Or.inr ⟨?_, rfl⟩) (by assumption) ?_; rfl) | (refine wpAnyH_take (i := 1) (v := ?_) rfl (by kernel_rfl) (by kernel_rfl) (by kernel_rfl) (fun _ _ _ h => h) (Or.inl ⟨?_, ?_⟩) (by assumption) ?_; rotate_left; rfl; focus (intro w hSw; (try dsimp only at hSw); go_simp; all_goals (with_reducible rfl)))
              (try simp only [List.getElem_toArray, List.getElem_cons_zero, List.getElem_cons_succ, Act.put, List.setIfInBounds_toArray, List.set_cons_zero, List.set_cons_succ])
              first | (refine wpAnyH_take (i := 2) (v := _) rfl (by kernel_rfl) (by kernel_rfl) (by kernel_rfl) (fun _ _ _ h => h) (Or.inr ⟨?_, rfl⟩) (by assumption) ?_; rfl) | (refine wpAnyH_take (i := 2) (v := ?_) rfl (by kernel_rfl) (by kernel_rfl) (by kernel_rfl) (fun _ _ _ h => h) (Or.inl ⟨?_, ?_⟩) (by assumption) ?_; rotate_left; rfl; focus (intro w hSw; (try dsimp only at hSw); go_simp; all_goals (with_reducible rfl)))
              (try simp only [List.getElem_toArray, List.getElem_cons_zero, List.getElem_cons_succ, Act.put, List.setIfInBounds_toArray, List.set_cons_zero, List.set_cons_succ])
              first | (refine wpAnyH_take (i := 3) (v := _) rfl (by kernel_rfl) (by kernel_rfl) (by kernel_rfl) (fun _ _ _ h => h) (Or.inr ⟨?_, rfl⟩) (by assumption) ?_; rfl) | (refine wpAnyH_take (i := 3) (v := ?_) rfl (by kernel_rfl) (by kernel_rfl) (by kernel_rfl) (fun _ _ _ h => h) (Or.inl ⟨?_, ?_⟩) (by assumption) ?_; rotate_left; rfl; focus (intro w hSw; (try dsimp only at hSw); go_simp; all_goals (with_reducible rfl)))
              (try simp only [List.getElem_toArray, List.getElem_cons_zero, List.getElem_cons_succ, Act.put, List.setIfInBounds_toArray, List.set_cons_zero, List.set_cons_succ])
              first | (refine wpAnyH_take (i := 4) (v := _) rfl (by kernel_rfl) (by kernel_rfl) (by kernel_rfl) (fun _ _ _ h => h) (Or.inr ⟨?_, rfl⟩) (by assumption) ?_; rfl) | (refine wpAnyH_take (i := 4) (v := ?_) rfl (by kernel_rfl) (by kernel_rfl) (by kernel_rfl) (fun _ _ _ h => h) (Or.inl ⟨?_, ?_⟩) (by assumption) ?_; rotate_left; rfl; focus (intro w hSw; (try dsimp only at hSw); go_simp; all_goals (with_reducible rfl)))
              (try simp only [List.getElem_toArray, List.getElem_cons_zero, List.getElem_cons_succ, Act.put, List.setIfInBounds_toArray, List.set_cons_zero, List.set_cons_succ])
              first | (refine wpAnyH_take (i := 5) (v := _) rfl (by kernel_rfl) (by kernel_rfl) (by kernel_rfl) (fun _ _ _ h => h) (Or.inr ⟨?_, rfl⟩) (by assumption) ?_; rfl) | (refine wpAnyH_take (i := 5) (v := ?_) rfl (by kernel_rfl) (by kernel_rfl) (by kernel_rfl) (fun _ _ _ h => h) (Or.inl ⟨?_, ?_⟩) (by assumption) ?_; rotate_left; rfl; focus (intro w hSw; (try dsimp only at hSw); go_simp; all_goals (with_reducible rfl)))
              (try simp only [List.getElem_toArray, List.getElem_cons_zero, List.getElem_cons_succ, Act.put, List.setIfInBounds_toArray, List.set_cons_zero, List.set_cons_succ])
              first | (refine wpAnyH_take (i := 6) (v := _) rfl (by kernel_rfl) (by kernel_rfl) (by kernel_rfl) (fun _ _ _ h => h) (Or.inr ⟨?_, rfl⟩) (by assumption) ?_; rfl) | (refine wpAnyH_take (i := 6) (v := ?_) rfl (by kernel_rfl) (by kernel_rfl) (by kernel_rfl) (fun _ _ _ h => h) (Or.inl ⟨?_, ?_⟩) (by assumption) ?_; rotate_left; rfl; focus (intro w hSw; (try dsimp only at hSw); go_simp; all_goals (with_reducible rfl)))
              (try simp only [List.getElem_toArray, List.getElem_cons_zero, List.getElem_cons_succ, Act.put, List.setIfInBounds_toArray, List.set_cons_zero, List.set_cons_succ])
              first | (refine wpAnyH_take (i := 7) (v := _) rfl (by kernel_rfl) (by kernel_rfl) (by kernel_rfl) (fun _ _ _ h => h) (Or.inr ⟨?_, rfl⟩) (by assumption) ?_; rfl) | (refine wpAnyH_take (i := 7) (v := ?_) rfl (by kernel_rfl) (by kernel_rfl) (by kernel_rfl) (fun _ _ _ h => h) (Or.inl ⟨?_, ?_⟩) (by assumption) ?_; rotate_left; rfl; focus (intro w hSw; (try dsimp only at hSw); go_simp; all_goals (with_reducible rfl)))
              (try simp only [List.getElem_toArray, List.getElem_cons_zero, List.getElem_cons_succ, Act.put, List.setIfInBounds_toArray, List.set_cons_zero, List.set_cons_succ])
              first | (refine wpAnyH_take (i := 8) (v := _) rfl (by kernel_rfl) (by kernel_rfl) (by kernel_rfl) (fun _ _ _ h => h) (Or.inr ⟨?_, rfl⟩) (by assumption) ?_; rfl) | (refine wpAnyH_take (i := 8) (v := ?_) rfl (by kernel_rfl) (by kernel_rfl) (by kernel_rfl) (fun _ _ _ h => h) (Or.inl ⟨?_, ?_⟩) (by assumption) ?_; rotate_left; rfl; focus (intro w hSw; (try dsimp only at hSw); go_simp; all_goals (with_reducible rfl)))
              (try simp only [List.getElem_toArray, List.getElem_cons_zero, List.getElem_cons_succ, Act.put, List.setIfInBounds_toArray, List.set_cons_zero, List.set_cons_succ])
              first | (refine wpAnyH_take (i := 9) (v := _) rfl (by kernel_rfl) (by kernel_rfl) (by kernel_rfl) (fun _ _ _ h => h) (Or.inr ⟨?_, rfl⟩) (by assumption) ?_; rfl) | (refine wpAnyH_take (i := 9) (v := ?_) rfl (by kernel_rfl) (by kernel_rfl) (by kernel_rfl) (fun _ _ _ h => h) (Or.inl ⟨?_, ?_⟩) (by assumption) ?_; rotate_left; rfl; focus (intro w hSw; (try dsimp only at hSw); go_simp; all_goals (with_reducible rfl)))
              (try simp only [List.getElem_toArray, List.getElem_cons_zero, List.getElem_cons_succ, Act.put, List.setIfInBounds_toArray, List.set_cons_zero, List.set_cons_succ])
              first | (refine wpAnyH_take (i := 10) (v := _) rfl (by kernel_rfl) (by kernel_rfl) (by kernel_rfl) (fun _ _ _ h => h) (Or.inr ⟨?_, rfl⟩) (by assumption) ?_; rfl) | (refine wpAnyH_take (i := 10) (v := ?_) rfl (by kernel_rfl) (by kernel_rfl) (by kernel_rfl) (fun _ _ _ h => h) (Or.inl ⟨?_, ?_⟩) (by assumption) ?_; rotate_left; rfl; focus (intro w hSw; (try dsimp only at hSw); go_simp; all_goals (with_reducible rfl)))
              (try simp only [List.getElem_toArray, List.getElem_cons_zero, List.getElem_cons_succ, Act.put, List.setIfInBounds_toArray, List.set_cons_zero, List.set_cons_succ])
              first | (refine wpAnyH_take (i := 11) (v := _) rfl (by kernel_rfl) (by kernel_rfl) (by kernel_rfl) (fun _ _ _ h => h) (Or.inr ⟨?_, rfl⟩) (by assumption) ?_; rfl) | (refine wpAnyH_take (i := 11) (v := ?_) rfl (by kernel_rfl) (by kernel_rfl) (by kernel_rfl) (fun _ _ _ h => h) (Or.inl ⟨?_, ?_⟩) (by assumption) ?_; rotate_left; rfl; focus (intro w hSw; (try dsimp only at hSw); go_simp; all_goals (with_reducible rfl)))
              (try simp only [List.getElem_toArray, List.getElem_cons_zero, List.getElem_cons_succ, Act.put, List.setIfInBounds_toArray, List.set_cons_zero, List.set_cons_succ])
              first | (refine wpAnyH_take (i := 12) (v := _) rfl (by kernel_rfl) (by kernel_rfl) (by kernel_rfl) (fun _ _ _ h => h) (Or.inr ⟨?_, rfl⟩) (by assumption) ?_; rfl) | (refine wpAnyH_take (i := 12) (v := ?_) rfl (by kernel_rfl) (by kernel_rfl) (by kernel_rfl) (fun _ _ _ h => h) (Or.inl ⟨?_, ?_⟩) (by assumption) ?_; rotate_left; rfl; focus (intro w hSw; (try dsimp only at hSw); go_simp; all_goals (with_reducible rfl)))
              (try simp only [List.getElem_toArray, List.getElem_cons_zero, List.getElem_cons_succ, Act.put, List.setIfInBounds_toArray, List.set_cons_zero, List.set_cons_succ])
              first | (refine wpAnyH_take (i := 13) (v := _) rfl (by kernel_rfl) (by kernel_rfl) (by kernel_rfl) (fun _ _ _ h => h) (Or.inr ⟨?_, rfl⟩) (by assumption) ?_; rfl) | (refine wpAnyH_take (i := 13) (v := ?_) rfl (by kernel_rfl) (by kernel_rfl) (by kernel_rfl) (fun _ _ _ h => h) (Or.inl ⟨?_, ?_⟩) (by assumption) ?_; rotate_left; rfl; focus (intro w hSw; (try dsimp only at hSw); go_simp; all_goals (with_reducible rfl)))
              (try simp only [List.getElem_toArray, List.getElem_cons_zero, List.getElem_cons_succ, Act.put, List.setIfInBounds_toArray, List.set_cons_zero, List.set_cons_succ])
              refine wpAnyH_take (i := 14) (v := .slice A6 m c6) rfl (by kernel_rfl) (by kernel_rfl) (by kernel_rfl) (fun _ _ _ h => h) (Or.inl ⟨?_, ?_⟩) (by assumption) ?_
              rfl
              (focus (intro w hSw; (try dsimp only at hSw); go_simp; all_goals (exact ⟨by rw [show p + 2 + 1 = p + 1 + 2 by omega]; exact HA6.out, HC6.out⟩)))
              (try simp only [List.getElem_toArray, List.getElem_cons_zero, List.getElem_cons_succ, Act.put, List.setIfInBounds_toArray, List.set_cons_zero, List.set_cons_succ])
              first | (refine wpAnyH_take (i := 15) (v := _) rfl (by kernel_rfl) (by kernel_rfl) (by kernel_rfl) (fun _ _ _ h => h) (Or.inr ⟨?_, rfl⟩) (by assumption) ?_; rfl) | (refine wpAnyH_take (i := 15) (v := ?_) rfl (by kernel_rfl) (by kernel_rfl) (by kernel_rfl) (fun _ _ _ h => h) (Or.inl ⟨?_, ?_⟩) (by assumption) ?_; rotate_left; rfl; focus (intro w hSw; (try dsimp only at hSw); go_simp; all_goals (with_reducible rfl)))
              (try simp only [List.getElem_toArray, List.getElem_cons_zero, List.getElem_cons_succ, Act.put, List.setIfInBounds_toArray, List.set_cons_zero, List.set_cons_succ])
              first | (refine wpAnyH_take (i := 16) (v := _) rfl (by kernel_rfl) (by kernel_rfl) (by kernel_rfl) (fun _ _ _ h => h) (Or.inr ⟨?_, rfl⟩) (by assumption) ?_; rfl) | (refine wpAnyH_take (i := 16) (v := ?_) rfl (by kernel_rfl) (by kernel_rfl) (by kernel_rfl) (fun _ _ _ h => h) (Or.inl ⟨?_, ?_⟩) (by assumption) ?_; rotate_left; rfl; focus (intro w hSw; (try dsimp only at hSw); go_simp; all_goals (with_reducible rfl)))
              (try simp only [List.getElem_toArray, List.getElem_cons_zero, List.getElem_cons_succ, Act.put, List.setIfInBounds_toArray, List.set_cons_zero, List.set_cons_succ])
              refine wpAnyH_ready (rs := [17]) (by kernel_rfl) (by simp) ?_
              refine AllReadyH.cons rfl (fun K hK => ?_) AllReadyH.nil
              go_simp
              have K5 : ∀ k v, Blk ((w4.drewN k).setCell ⟨w.heap.size + 1, 2, none⟩ v) g 93 #[.slice (some ⟨bb, oo, none⟩) l.length c4, .int .i64 ((p + 1 + 2 : Nat) : Int), .int .i64 (64 - ((n + 1 : Nat) : Int)), .int .i64 0] := fun k v => (HK4.out.drewN k).far (by show g ≠ w.heap.size + 1; omega) v
              have hk5 := K5 (nq + 1) (.string ⟨((l.drop (p + 1 + 2)).take m).toArray⟩)
              have hx5 : Blk ((w4.drewN (nq + 1)).setCell ⟨w.heap.size + 1, 2, none⟩ (.string ⟨((l.drop (p + 1 + 2)).take m).toArray⟩)) (w.heap.size + 1) 35 #[.int .i64 (x : Int), .int .i64 0, .string ⟨((l.drop (p + 1 + 2)).take m).toArray⟩, .slice none 0 0] := (HX2.out.drewN (nq + 1)).set_ 2 _
              have hx6 := (HXZ.out.drewN (nq + 1)).far (p := ⟨w.heap.size + 1, 2, none⟩) (by show w.heap.size ≠ w.heap.size + 1; omega) (.string ⟨((l.drop (p + 1 + 2)).take m).toArray⟩)
              have hg5 := only_setCell (p := ⟨w.heap.size + 1, 2, none⟩) (only_drewN HG4.out (nq + 1)) (.inr (Nat.le_succ _)) (.string ⟨((l.drop (p + 1 + 2)).take m).toArray⟩)
              have hr5 : Reads ((w4.drewN (nq + 1)).setCell ⟨w.heap.size + 1, 2, none⟩ (.string ⟨((l.drop (p + 1 + 2)).take m).toArray⟩)) g 1 (some ⟨bb, oo, none⟩) l.length (Lib.byteCells l) := Reads.setCell (p := ⟨w.heap.size + 1, 2, none⟩) (show Reads (w4.drewN (nq + 1)) g 1 (some ⟨bb, oo, none⟩) l.length (Lib.byteCells l) from HRD4.out) (by show g ≤ w.heap.size + 1; omega) _
              have hs5 : ((w4.drewN (nq + 1)).setCell ⟨w.heap.size + 1, 2, none⟩ (.string ⟨((l.drop (p + 1 + 2)).take m).toArray⟩)).heap.size = w4.heap.size := by simp [World.setCell]
              refine hK.out _ _ ⟨hk5.cell 0, hk5.cell 1, HCV2.out _ _⟩ (fun hHeld2 => ?_)
              clear hK K hHeld hHeld2
              (try simp only [List.getElem_toArray, List.getElem_cons_zero, List.getElem_cons_succ, Act.put, List.setIfInBounds_toArray, List.set_cons_zero, List.set_cons_succ])
              refine wpAnyH_done (by kernel_rfl) ?_ _
              generalize (w4.drewN (nq + 1)).setCell ⟨w.heap.size + 1, 2, none⟩ (.string ⟨((l.drop (p + 1 + 2)).take m).toArray⟩) = W5 at hk5 hx5 hx6 hg5 hr5 hs5 ⊢
              have i1 : W5.cell? ⟨g, 1, none⟩ = some (.int .i64 ((p + 1 + 2 : Nat) : Int)) := hk5.cell 1
              have i1f := hk5.frozen 1
              have z7 : True → wrap64 ((p : Int) + 1 + 2 + (m : Int)) = (p : Int) + 1 + 2 + (m : Int) := fun _ => by unfold wrap64; omega
              have HK6 := Lib.hid (hk5.set_ 1 (.int .i64 ((p : Int) + 1 + 2 + (m : Int))))
              have HR6 := Lib.hid (Reads.setCell (p := ⟨g, 1, none⟩) hr5 (Nat.le_refl _) (.int .i64 ((p : Int) + 1 + 2 + (m : Int))))
              have HX5 := Lib.hid hx5
              have HX6 := Lib.hid hx6
              have HG5 := Lib.hid hg5
              have HS5 := Lib.hid hs5
              clear hk5 hx5 hx6 hg5 hr5 hs5 K5
              go_wp2_with fail
              go_meet
              refine ⟨only_setCell HG5.out (.inl rfl) _, HX6.out.far (by show w.heap.size ≠ g; omega) _, by have := HS5.out; simp [World.setCell]; omega, x, 0, ⟨((l.drop (p + 1 + 2)).take m).toArray⟩, 0, rfl, by omega, HX5.out.far (by show w.heap.size + 1 ≠ g; omega) _, .inr ⟨p + 1 + 2 + m, ⟨h1, by omega, by omega, _, c4, hc4, hc5, ?_, HR6.out⟩, fun h => absurd rfl h, ?_⟩⟩
              · simpa using HK6.out
              · show _ = _
                rw [← HRX.out]
                have := HC.out
                have := HS4.out
                rw [if_pos (by omega), atomT, numT, if_neg (by omega), HM.out, if_neg hmm]
                simp only [if_neg hsh]
                rw [decK]
                simp only
                rw [HC.out]
                rfl
      · have y1 : ((x : Int) == 1) = false := by rw [beq_eq_false_iff_ne]; omega
        have y2 : ((x : Int) == 2) = true := by rw [beq_iff_eq]; omega
        have y3 : ((x : Int) == 3) = false := by rw [beq_eq_false_iff_ne]; omega
        have y4 : ((x : Int) == 4) = false := by rw [beq_eq_false_iff_ne]; omega
        have y5 : ((x : Int) == 5) = false := by rw [beq_eq_false_iff_ne]; omega
        have y6 : ((x : Int) == 6) = false := by rw [beq_eq_false_iff_ne]; omega
        have y7 : ((x : Int) == 7) = false := by rw [beq_eq_false_iff_ne]; omega
        have HC := Lib.hid hc
        clear hc
        have cm := Lib.hid (rnum_walk l g (p + 1) (n + 1) 4 W3 HRT.out (by omega))
        clear r3 f3
        go_wp2_with fail
        refine cm.out.mono ?_
        rintro _ w4 ⟨hg4, ⟨hs4, rfl, hre⟩ | ⟨hs4, rfl, hrd4⟩⟩
        · have hx1 := HX1.out.grown hg4 (fun e => by injection e with e; omega)
          have hx0 := HX0.out.grown hg4 (fun e => by injection e with e; omega)
          have hgs := hg4.size
          have r3 := hre.three
          have k1 : w4.cell? ⟨w.heap.size + 1, 1, none⟩ = some (.int .i64 0) := hx1.cell 1
          have kf := hx1.frozen 1
          have hx2 : Blk (w4.setCell ⟨w.heap.size + 1, 1, none⟩ (.int .i64 0)) (w.heap.size + 1) 35 #[.int .i64 (x : Int), .int .i64 0, .string ⟨#[]⟩, .slice none 0 0] := hx1.set_ 1 (.int .i64 0)
          have HX2 := Lib.hid hx2
          have HXZ := Lib.hid (hx0.far (p := ⟨w.heap.size + 1, 1, none⟩) (by show w.heap.size ≠ w.heap.size + 1; omega) (.int .i64 0))
          have HG4 := Lib.hid (only_setCell (p := ⟨w.heap.size + 1, 1, none⟩) (only_trans HG.out hg4) (.inr (Nat.le_succ _)) (.int .i64 0))
          have HE4 := Lib.hid (hre.grown (only_setCell (p := ⟨w.heap.size + 1, 1, none⟩) (only_refl w4 (some (w.heap.size + 1))) (.inl rfl) (.int .i64 0)) (fun q e => by injection e with e; omega))
          have d3 : (w4.setCell ⟨w.heap.size + 1, 1, none⟩ (.int .i64 0)).cell? ⟨g, 3, none⟩ = some (.int .i64 1) := HE4.out.three
          have HS4 := Lib.hid hs4
          clear hx1 hx0 hg4 hre hx2 cm r3 hs4
          go_wp2_with fail
          go_meet
          refine ⟨HG4, HXZ, by simp [World.setCell]; omega, x, 0, ⟨#[]⟩, 0, rfl, by omega, HX2, .inl ⟨rfl, 1, (by show (1 : Int) ≠ 0; decide), ?_, HE4⟩⟩
          show _ = _
          rw [← HRX.out]
          have := HC.out
          rw [if_neg (by omega), if_pos (by omega), numT, if_pos HS4.out]
        · obtain ⟨m, hm⟩ : ∃ m, beN ((l.drop (p + 1)).take 4) = m := ⟨_, rfl⟩
          have hm4 : m < 4294967296 := by rw [← hm]; exact be4 _ (by rw [List.length_take]; omega)
          have HM := Lib.hid hm
          rw [hm]
          clear hm
          have hx1 := HX1.out.grown hg4 (fun e => by injection e with e; omega)
          have hx0 := HX0.out.grown hg4 (fun e => by injection e with e; omega)
          have hgs := hg4.size
          have k1 : w4.cell? ⟨w.heap.size + 1, 1, none⟩ = some (.int .i64 0) := hx1.cell 1
          have kf := hx1.frozen 1
          have hx2 : Blk (w4.setCell ⟨w.heap.size + 1, 1, none⟩ (.int .i64 (m : Int))) (w.heap.size + 1) 35 #[.int .i64 (x : Int), .int .i64 (m : Int), .string ⟨#[]⟩, .slice none 0 0] := hx1.set_ 1 (.int .i64 (m : Int))
          have HX2 := Lib.hid hx2
          have HXZ := Lib.hid (hx0.far (p := ⟨w.heap.size + 1, 1, none⟩) (by show w.heap.size ≠ w.heap.size + 1; omega) (.int .i64 (m : Int)))
          have HG4 := Lib.hid (only_setCell (p := ⟨w.heap.size + 1, 1, none⟩) (only_trans HG.out hg4) (.inr (Nat.le_succ _)) (.int .i64 (m : Int)))
          have HR4 := Lib.hid (hrd4.grown (only_setCell (p := ⟨w.heap.size + 1, 1, none⟩) (only_refl w4 (some (w.heap.size + 1))) (.inl rfl) (.int .i64 (m : Int))) (fun q e => by injection e with e; omega))
          have d1 : (w4.setCell ⟨w.heap.size + 1, 1, none⟩ (.int .i64 (m : Int))).cell? ⟨w.heap.size + 1, 1, none⟩ = some (.int .i64 (m : Int)) := hx2.cell 1
          obtain ⟨d3, f3⟩ := HR4.out.three
          have HS4 := Lib.hid hs4
          clear hx1 hx0 hg4 hrd4 hx2 cm hs4
          by_cases hmm : 1073741824 < m
          · have hmi : decide ((1073741824 : Int) < (m : Int)) = true := by simp; omega
            have hmi2 : (1073741824 : Int) < (m : Int) := by omega
            go_wp2_with fail
            go_meet
            refine ⟨only_setCell HG4.out (.inl rfl) _, HXZ.out.far (by show w.heap.size ≠ g; omega) _, by simp [World.setCell]; omega, x, m, ⟨#[]⟩, 0, rfl, by omega, HX2.out.far (by show w.heap.size + 1 ≠ g; omega) _, .inl ⟨rfl, 3, (by show (3 : Int) ≠ 0; decide), ?_, HR4.out.fail 3⟩⟩
            show _ = _
            rw [← HRX.out]
            have := HC.out
            have := HS4.out
            rw [if_neg (by omega), if_pos (by omega), numT, if_neg (by omega), HM.out, if_pos hmm]
          · have hmi : decide ((1073741824 : Int) < (m : Int)) = false := by simp; omega
            have hmi2 : ¬ (1073741824 : Int) < (m : Int) := by omega
            go_wp2_with fail
            go_meet
            refine ⟨HG4, HXZ, by simp [World.setCell]; omega, x, m, ⟨#[]⟩, 0, rfl, by omega, HX2, .inr ⟨p + 1 + 4, HR4, fun h => absurd rfl h, ?_⟩⟩
            show _ = _
            rw [← HRX.out]
            have := HC.out
            have := HS4.out
            rw [if_neg (by omega), if_pos (by omega), numT, if_neg (by omega), HM.out, if_neg hmm, decK]
            simp only
            rw [HC.out]
            rfl
      · have y1 : ((x : Int) == 1) = false := by rw [beq_eq_false_iff_ne]; omega
        have y2 : ((x : Int) == 2) = false := by rw [beq_eq_false_iff_ne]; omega
        have y3 : ((x : Int) == 3) = true := by rw [beq_iff_eq]; omega
        have y4 : ((x : Int) == 4) = false := by rw [beq_eq_false_iff_ne]; omega
        have y5 : ((x : Int) == 5) = false := by rw [beq_eq_false_iff_ne]; omega
        have y6 : ((x : Int) == 6) = false := by rw [beq_eq_false_iff_ne]; omega
        have y7 : ((x : Int) == 7) = false := by rw [beq_eq_false_iff_ne]; omega
        have HC := Lib.hid hc
        clear hc
        go_wp2_with fail
        go_meet
        refine ⟨HG, HX0, hsz2, x, 0, ⟨#[]⟩, 1, rfl, by omega, HX1, .inr ⟨p + 1, HRT, fun _ => ⟨rfl, rfl⟩, ?_⟩⟩
        show _ = _
        rw [← HRX.out]
        have := HC.out
        rw [if_neg (by omega), if_neg (by omega), if_pos (by omega)]
      · have y1 : ((x : Int) == 1) = false := by rw [beq_eq_false_iff_ne]; omega
        have y2 : ((x : Int) == 2) = false := by rw [beq_eq_false_iff_ne]; omega
        have y3 : ((x : Int) == 3) = false := by rw [beq_eq_false_iff_ne]; omega
        have y4 : ((x : Int) == 4) = true := by rw [beq_iff_eq]; omega
        have y5 : ((x : Int) == 5) = false := by rw [beq_eq_false_iff_ne]; omega
        have y6 : ((x : Int) == 6) = false := by rw [beq_eq_false_iff_ne]; omega
        have y7 : ((x : Int) == 7) = false := by rw [beq_eq_false_iff_ne]; omega
        have HC := Lib.hid hc
        clear hc
        go_wp2_with fail
        go_meet
        refine ⟨HG, HX0, hsz2, x, 0, ⟨#[]⟩, 1, rfl, by omega, HX1, .inr ⟨p + 1, HRT, fun _ => ⟨rfl, rfl⟩, ?_⟩⟩
        show _ = _
        rw [← HRX.out]
        have := HC.out
        rw [if_neg (by omega), if_neg (by omega), if_pos (by omega)]
      · have y1 : ((x : Int) == 1) = false := by rw [beq_eq_false_iff_ne]; omega
        have y2 : ((x : Int) == 2) = false := by rw [beq_eq_false_iff_ne]; omega
        have y3 : ((x : Int) == 3) = false := by rw [beq_eq_false_iff_ne]; omega
        have y4 : ((x : Int) == 4) = false := by rw [beq_eq_false_iff_ne]; omega
        have y5 : ((x : Int) == 5) = true := by rw [beq_iff_eq]; omega
        have y6 : ((x : Int) == 6) = false := by rw [beq_eq_false_iff_ne]; omega
        have y7 : ((x : Int) == 7) = false := by rw [beq_eq_false_iff_ne]; omega
        have HC := Lib.hid hc
        clear hc
        go_wp2_with fail
        go_meet
        refine ⟨HG, HX0, hsz2, x, 0, ⟨#[]⟩, 2, rfl, by omega, HX1, .inr ⟨p + 1, HRT, fun _ => ⟨rfl, rfl⟩, ?_⟩⟩
        show _ = _
        rw [← HRX.out]
        have := HC.out
        rw [if_neg (by omega), if_neg (by omega), if_neg (by omega), if_pos (by omega)]
      · have y1 : ((x : Int) == 1) = false := by rw [beq_eq_false_iff_ne]; omega
        have y2 : ((x : Int) == 2) = false := by rw [beq_eq_false_iff_ne]; omega
        have y3 : ((x : Int) == 3) = false := by rw [beq_eq_false_iff_ne]; omega
        have y4 : ((x : Int) == 4) = false := by rw [beq_eq_false_iff_ne]; omega
        have y5 : ((x : Int) == 5) = false := by rw [beq_eq_false_iff_ne]; omega
        have y6 : ((x : Int) == 6) = true := by rw [beq_iff_eq]; omega
        have y7 : ((x : Int) == 7) = false := by rw [beq_eq_false_iff_ne]; omega
        have HC := Lib.hid hc
        clear hc
        go_wp2_with fail
        go_meet
        refine ⟨HG, HX0, hsz2, x, 0, ⟨#[]⟩, 2, rfl, by omega, HX1, .inr ⟨p + 1, HRT, fun _ => ⟨rfl, rfl⟩, ?_⟩⟩
        show _ = _
        rw [← HRX.out]
        have := HC.out
        rw [if_neg (by omega), if_neg (by omega), if_neg (by omega), if_pos (by omega)]
      · have y1 : ((x : Int) == 1) = false := by rw [beq_eq_false_iff_ne]; omega
        have y2 : ((x : Int) == 2) = false := by rw [beq_eq_false_iff_ne]; omega
        have y3 : ((x : Int) == 3) = false := by rw [beq_eq_false_iff_ne]; omega
        have y4 : ((x : Int) == 4) = false := by rw [beq_eq_false_iff_ne]; omega
        have y5 : ((x : Int) == 5) = false := by rw [beq_eq_false_iff_ne]; omega
        have y6 : ((x : Int) == 6) = false := by rw [beq_eq_false_iff_ne]; omega
        have y7 : ((x : Int) == 7) = true := by rw [beq_iff_eq]; omega
        have HC := Lib.hid hc
        clear hc
        go_wp2_with fail
        go_meet
        refine ⟨HG, HX0, hsz2, x, 0, ⟨#[]⟩, 2, rfl, by omega, HX1, .inr ⟨p + 1, HRT, fun _ => ⟨rfl, rfl⟩, ?_⟩⟩
        show _ = _
        rw [← HRX.out]
        have := HC.out
        rw [if_neg (by omega), if_neg (by omega), if_neg (by omega), if_pos (by omega)]
      · have y1 : ((x : Int) == 1) = false := by rw [beq_eq_false_iff_ne]; omega
        have y2 : ((x : Int) == 2) = false := by rw [beq_eq_false_iff_ne]; omega
        have y3 : ((x : Int) == 3) = false := by rw [beq_eq_false_iff_ne]; omega
        have y4 : ((x : Int) == 4) = false := by rw [beq_eq_false_iff_ne]; omega
        have y5 : ((x : Int) == 5) = false := by rw [beq_eq_false_iff_ne]; omega
        have y6 : ((x : Int) == 6) = false := by rw [beq_eq_false_iff_ne]; omega
        have y7 : ((x : Int) == 7) = false := by rw [beq_eq_false_iff_ne]; omega
        have HC := Lib.hid hc
        clear hc
        go_wp2_with fail
        go_meet
        refine ⟨only_setCell HG.out (.inl rfl) _, HX0.out.far (by show w.heap.size ≠ g; omega) _, by simpa [World.setCell] using hsz2, x, 0, ⟨#[]⟩, 0, rfl, by omega, HX1.out.far (by show w.heap.size + 1 ≠ g; omega) _, .inl ⟨rfl, 2, (by show (2 : Int) ≠ 0; decide), ?_, HRT.out.fail 2⟩⟩
        show _ = _
        rw [← HRX.out]
        have := HC.out
        rw [if_neg (by omega), if_neg (by omega), if_neg (by omega), if_neg (by omega)]
    case rest =>
      obtain ⟨hg, hz, hsz0, kd, nm, s, K, rfl, hK, hx, hst⟩ := hcut
      obtain ⟨i0, hi, hz0', hz1', hz2'⟩ := info_parts4 info_term
      go_wp2_with fail
      go_loopw [8] (fun iv wr => ∃ i : Nat, i ≤ K ∧ iv = .int .i64 i ∧ NodeSt d l g n R w K kd nm s i wr) (fun iv _ => K - (intOf iv).toNat)
      case atStart =>
        refine ⟨0, by omega, rfl, hg, hz, hsz0, none, 0, 0, hx, ?_⟩
        rcases hst with ⟨_, c, h1, h2, h3⟩ | ⟨q, h1, _, h3⟩
        · exact .inl ⟨c, h1, h2, h3⟩
        · exact .inr ⟨q, [], [], q, n + 1, h3, rfl, rfl, (by show decK 0 d l q (n + 1) = _; rw [decK]), h1, World.ownsRow_nil _ _ _ _, (by show KidsSt _ _ _ _ _ _; exact ⟨by rw [TmsV], fun _ => ⟨wc, by rw [TmsV], Nat.le_refl _, fun _ _ _ => rfl, fun gb e => by simp [Value.ownBlock] at e⟩, fun _ => rfl⟩)⟩
      case round =>
        clear hg hz hsz0 hx hst
        obtain ⟨i, hiK, rfl, hg, hz, hsz, A, m, cp, hx, hst⟩ := hrel
        have hxx := hx.out
        have hzz := hz.out
        rcases hst with ⟨c, hc0, hRc, hre⟩ | ⟨q, ts, vs, q', n', hRd, hmi, hlen, hdk, hrd, hown, hks⟩
        · have r3 := hre.out.three
          have hcb : (c == 0) = false := by have := hc0.out; rw [beq_eq_false_iff_ne]; exact this
          by_cases hlt : i < K
          all_goals
            go_wp2_with (first
              | (refine wpList_load_at rfl 35 _ rfl ⟨w.heap.size + 1, 0, none⟩ rfl [.int .i64 kd, .int .i64 nm, .string s, .slice A m cp] _ (blk_cells hxx) Try.underlying35 rfl term_size ?_)
              | (refine wpList_store_blk rfl 35 _ _ rfl w.heap.size _ #[.int .i64 kd, .int .i64 nm, .string s, .slice A m cp] _ rfl rfl hzz rfl term_size (ones4 _ _ _ _ _ _) ?_))
            refine bodyPost_ret (results_cell_row Try.results68 _ _ w.heap.size _ _ _ _ rfl hzz.setRow Try.underlying35 rfl (by kernel_rfl)) rfl ?_
            exact ⟨only_setRow hg.out (Nat.le_refl _) _, kd, nm, s, A, m, cp, rfl, by rw [hRc.out]; exact ⟨hre.out.grown (setRow_only _ w.heap.size _) (fun q e => by injection e with e; omega), hc0.out⟩⟩
        · obtain rfl := hmi.symm
          obtain ⟨r3, f3⟩ := hrd.out.three
          by_cases hlt : i < K
          · have hK2 := hK
            have c53 : wr.drew.cell? ⟨w.heap.size + 1, 3, none⟩ = some (.slice A i cp) := hxx.cell 3
            have hrd5 : RRd wr.drew g l q' n' := hrd.out
            have ct := Lib.hid (hT l g q' n' (deep + 1) wr.drew hdp1 hrd5)
            have hwi : True → IntKind.i64.wrap (deep + 1) = deep + 1 := fun _ => by rw [IntKind.wrap_i64]; omega
            clear hrd5 hK
            go_upto_region 35 with (fail)
            clear r3 f3
            refine wp_region_held_drew (S := fun W => True) (by kernel_rfl) trivial (fun hHeld => ?_)
            first | (refine wpAnyH_take (i := 0) (v := _) rfl (by kernel_rfl) (by kernel_rfl) (by kernel_rfl) (fun _ _ _ h => h) (Or.inr ⟨?_, rfl⟩) (by assumption) ?_; rfl) | (refine wpAnyH_take (i := 0) (v := ?_) rfl (by kernel_rfl) (by kernel_rfl) (by kernel_rfl) (fun _ _ _ h => h) (Or.inl ⟨?_, ?_⟩) (by assumption) ?_; rotate_left; rfl; focus (intro w hSw; (try dsimp only at hSw); go_simp; all_goals (with_reducible rfl)))
            (try simp only [List.getElem_toArray, List.getElem_cons_zero, List.getElem_cons_succ, Act.put, List.setIfInBounds_toArray, List.set_cons_zero, List.set_cons_succ])
            first | (refine wpAnyH_take (i := 2) (v := _) rfl (by kernel_rfl) (by kernel_rfl) (by kernel_rfl) (fun _ _ _ h => h) (Or.inr ⟨?_, rfl⟩) (by assumption) ?_; rfl) | (refine wpAnyH_take (i := 2) (v := ?_) rfl (by kernel_rfl) (by kernel_rfl) (by kernel_rfl) (fun _ _ _ h => h) (Or.inl ⟨?_, ?_⟩) (by assumption) ?_; rotate_left; rfl; focus (intro w hSw; (try dsimp only at hSw); go_simp; all_goals (with_reducible rfl)))
            (try simp only [List.getElem_toArray, List.getElem_cons_zero, List.getElem_cons_succ, Act.put, List.setIfInBounds_toArray, List.set_cons_zero, List.set_cons_succ])
            first | (refine wpAnyH_take (i := 3) (v := _) rfl (by kernel_rfl) (by kernel_rfl) (by kernel_rfl) (fun _ _ _ h => h) (Or.inr ⟨?_, rfl⟩) (by assumption) ?_; rfl) | (refine wpAnyH_take (i := 3) (v := ?_) rfl (by kernel_rfl) (by kernel_rfl) (by kernel_rfl) (fun _ _ _ h => h) (Or.inl ⟨?_, ?_⟩) (by assumption) ?_; rotate_left; rfl; focus (intro w hSw; (try dsimp only at hSw); go_simp; all_goals (with_reducible rfl)))
            (try simp only [List.getElem_toArray, List.getElem_cons_zero, List.getElem_cons_succ, Act.put, List.setIfInBounds_toArray, List.set_cons_zero, List.set_cons_succ])
            first | (refine wpAnyH_take (i := 4) (v := _) rfl (by kernel_rfl) (by kernel_rfl) (by kernel_rfl) (fun _ _ _ h => h) (Or.inr ⟨?_, rfl⟩) (by assumption) ?_; rfl) | (refine wpAnyH_take (i := 4) (v := ?_) rfl (by kernel_rfl) (by kernel_rfl) (by kernel_rfl) (fun _ _ _ h => h) (Or.inl ⟨?_, ?_⟩) (by assumption) ?_; rotate_left; rfl; focus (intro w hSw; (try dsimp only at hSw); go_simp; all_goals (with_reducible rfl)))
            (try simp only [List.getElem_toArray, List.getElem_cons_zero, List.getElem_cons_succ, Act.put, List.setIfInBounds_toArray, List.set_cons_zero, List.set_cons_succ])
            refine wpAnyH_ready (rs := [1, 5]) (by kernel_rfl) (by simp) ?_
            refine AllReadyH.cons rfl (fun K hK => ?_) (AllReadyH.cons rfl (fun K hK => ?_) AllReadyH.nil)
            · go_simp
              refine hK.out _ _ trivial (fun hHeld => ?_)
              clear hK K
              (try simp only [List.getElem_toArray, List.getElem_cons_zero, List.getElem_cons_succ, Act.put, List.setIfInBounds_toArray, List.set_cons_zero, List.set_cons_succ])
              refine wpAnyH_ready (rs := [5]) (by kernel_rfl) (by simp) ?_
              refine AllReadyH.cons rfl (fun K hK => ?_) AllReadyH.nil
              go_simp
              go_at_call 68
              with_reducible refine ct.out.mono ?_
              rintro _ w5 ⟨hg5, kd5, nm5, s5, A5, m5, cp5, rfl, hr5⟩
              have hg5r : wr.grownBy w5 (some g) := ⟨hg5.os, hg5.tape, hg5.output, hg5.size, hg5.block⟩
              have HR5 := Lib.hid hr5
              have hx5 := hx.out.grown hg5r (fun e => by injection e with e; omega)
              have c5 : w5.cell? ⟨w.heap.size + 1, 3, none⟩ = some (.slice A i cp) := hx5.cell 3
              have hs5 := hg5r.size
              have hown5 := own_only hown.out hg5r (by omega)
              refine hK.out _ _ trivial (fun hHeld => ?_)
              clear hK K ct hr5 hg5
              (try simp only [List.getElem_toArray, List.getElem_cons_zero, List.getElem_cons_succ, Act.put, List.setIfInBounds_toArray, List.set_cons_zero, List.set_cons_succ])
              refine wpAnyH_ready (rs := [6]) (by kernel_rfl) (by simp) ?_
              refine AllReadyH.cons rfl (fun K hK => ?_) AllReadyH.nil
              go_simp
              have c6 : (w5.alloc (.cells #[.int .i64 kd5, .int .i64 nm5, .string s5, .slice A5 m5 cp5] 35)).cell? ⟨w.heap.size + 1, 3, none⟩ = some (.slice A i cp) := (hx5.alloc _).cell 3
              refine hK.out _ _ trivial (fun hHeld => ?_)
              clear hK K
              (try simp only [List.getElem_toArray, List.getElem_cons_zero, List.getElem_cons_succ, Act.put, List.setIfInBounds_toArray, List.set_cons_zero, List.set_cons_succ])
              refine wpAnyH_ready (rs := [7]) (by kernel_rfl) (by simp) ?_
              refine AllReadyH.cons rfl (fun K hK => ?_) AllReadyH.nil
              have hrdn := reads_new w5 35 [.int .i64 kd5, .int .i64 nm5, .string s5, .slice A5 m5 cp5]
              refine step_append_any (w5.alloc (.cells #[.int .i64 kd5, .int .i64 nm5, .string s5, .slice A5 m5 cp5] 35)) rfl (.tmp 162) (.tmp 167) 33 rfl (w.heap.size + 2) 35 i0 _ 4 56 Try.underlying33 hi hz0' hz1' hz2' rfl (by decide) (.slice A i cp) i (List.flatten vs) rfl (hown5.alloc _) (w5.heap.size + 1) _ 1 1 [.int .i64 kd5, .int .i64 nm5, .string s5, .slice A5 m5 cp5] rfl hrdn (by simp [Value.oneCell']) (by unfold maxLen; omega) (by omega) (by simp; omega) ?_
              intro v' w6 hown6 hg6 hat6
              obtain ⟨A7, c7', rfl, _, _⟩ := own_reads hown6 (Nat.le_refl _)
              have hx6 : Blk w6 (w.heap.size + 1) 35 #[.int .i64 kd, .int .i64 nm, .string s, .slice A i cp] := (hx5.alloc (.cells #[.int .i64 kd5, .int .i64 nm5, .string s5, .slice A5 m5 cp5] 35)).grown hg6 (fun e => by have := (hown5.lt _ e.symm).1; omega)
              have c7 : w6.cell? ⟨w.heap.size + 1, 3, none⟩ = some (.slice A i cp) := hx6.cell 3
              have f7 := hx6.frozen 3
              refine hK.out _ _ trivial (fun hHeld => ?_)
              clear hK K
              (try simp only [List.getElem_toArray, List.getElem_cons_zero, List.getElem_cons_succ, Act.put, List.setIfInBounds_toArray, List.set_cons_zero, List.set_cons_succ])
              first | (refine wpAnyH_take (i := 8) (v := _) rfl (by kernel_rfl) (by kernel_rfl) (by kernel_rfl) (fun _ _ _ h => h) (Or.inr ⟨?_, rfl⟩) (by assumption) ?_; rfl) | (refine wpAnyH_take (i := 8) (v := ?_) rfl (by kernel_rfl) (by kernel_rfl) (by kernel_rfl) (fun _ _ _ h => h) (Or.inl ⟨?_, ?_⟩) (by assumption) ?_; rotate_left; rfl; focus (intro w hSw; (try dsimp only at hSw); go_simp; all_goals (with_reducible rfl)))
              (try simp only [List.getElem_toArray, List.getElem_cons_zero, List.getElem_cons_succ, Act.put, List.setIfInBounds_toArray, List.set_cons_zero, List.set_cons_succ])
              refine wpAnyH_ready (rs := [9]) (by kernel_rfl) (by simp) ?_
              refine AllReadyH.cons rfl (fun K hK => ?_) AllReadyH.nil
              have FIN := Lib.hid (node_fin hg.out hz.out hsz hx.out hgl hrd.out hown.out hks.out hdk.out hRd.out hlen hlt hK2 hg5r HR5.out hown6 hg6 hat6)
              clear hrdn hown6 hg6 hat6 hown5 HR5
              go_simp
              refine hK.out _ _ trivial (fun hHeld => ?_)
              clear hK K
              (try simp only [List.getElem_toArray, List.getElem_cons_zero, List.getElem_cons_succ, Act.put, List.setIfInBounds_toArray, List.set_cons_zero, List.set_cons_succ])
              refine wpAnyH_done (by kernel_rfl) ?_ _
              go_wp2_with fail
              exact ⟨⟨i + 1, by omega, by go_num, FIN.out⟩, by simp [intOf]; omega⟩
            · go_simp
              go_at_call 68
              with_reducible refine ct.out.mono ?_
              rintro _ w5 ⟨hg5, kd5, nm5, s5, A5, m5, cp5, rfl, hr5⟩
              have hg5r : wr.grownBy w5 (some g) := ⟨hg5.os, hg5.tape, hg5.output, hg5.size, hg5.block⟩
              have HR5 := Lib.hid hr5
              have hx5 := hx.out.grown hg5r (fun e => by injection e with e; omega)
              have c5 : w5.cell? ⟨w.heap.size + 1, 3, none⟩ = some (.slice A i cp) := hx5.cell 3
              have hs5 := hg5r.size
              have hown5 := own_only hown.out hg5r (by omega)
              refine hK.out _ _ trivial (fun hHeld => ?_)
              clear hK K ct hr5 hg5
              (try simp only [List.getElem_toArray, List.getElem_cons_zero, List.getElem_cons_succ, Act.put, List.setIfInBounds_toArray, List.set_cons_zero, List.set_cons_succ])
              refine wpAnyH_ready (rs := [1, 6]) (by kernel_rfl) (by simp) ?_
              refine AllReadyH.cons rfl (fun K hK => ?_) (AllReadyH.cons rfl (fun K hK => ?_) AllReadyH.nil)
              · go_simp
                refine hK.out _ _ trivial (fun hHeld => ?_)
                clear hK K
                (try simp only [List.getElem_toArray, List.getElem_cons_zero, List.getElem_cons_succ, Act.put, List.setIfInBounds_toArray, List.set_cons_zero, List.set_cons_succ])
                refine wpAnyH_ready (rs := [6]) (by kernel_rfl) (by simp) ?_
                refine AllReadyH.cons rfl (fun K hK => ?_) AllReadyH.nil
                go_simp
                have c6 : (w5.alloc (.cells #[.int .i64 kd5, .int .i64 nm5, .string s5, .slice A5 m5 cp5] 35)).cell? ⟨w.heap.size + 1, 3, none⟩ = some (.slice A i cp) := (hx5.alloc _).cell 3
                refine hK.out _ _ trivial (fun hHeld => ?_)
                clear hK K
                (try simp only [List.getElem_toArray, List.getElem_cons_zero, List.getElem_cons_succ, Act.put, List.setIfInBounds_toArray, List.set_cons_zero, List.set_cons_succ])
                refine wpAnyH_ready (rs := [7]) (by kernel_rfl) (by simp) ?_
                refine AllReadyH.cons rfl (fun K hK => ?_) AllReadyH.nil
                have hrdn := reads_new w5 35 [.int .i64 kd5, .int .i64 nm5, .string s5, .slice A5 m5 cp5]
                refine step_append_any (w5.alloc (.cells #[.int .i64 kd5, .int .i64 nm5, .string s5, .slice A5 m5 cp5] 35)) rfl (.tmp 162) (.tmp 167) 33 rfl (w.heap.size + 2) 35 i0 _ 4 56 Try.underlying33 hi hz0' hz1' hz2' rfl (by decide) (.slice A i cp) i (List.flatten vs) rfl (hown5.alloc _) (w5.heap.size + 1) _ 1 1 [.int .i64 kd5, .int .i64 nm5, .string s5, .slice A5 m5 cp5] rfl hrdn (by simp [Value.oneCell']) (by unfold maxLen; omega) (by omega) (by simp; omega) ?_
                intro v' w6 hown6 hg6 hat6
                obtain ⟨A7, c7', rfl, _, _⟩ := own_reads hown6 (Nat.le_refl _)
                have hx6 : Blk w6 (w.heap.size + 1) 35 #[.int .i64 kd, .int .i64 nm, .string s, .slice A i cp] := (hx5.alloc (.cells #[.int .i64 kd5, .int .i64 nm5, .string s5, .slice A5 m5 cp5] 35)).grown hg6 (fun e => by have := (hown5.lt _ e.symm).1; omega)
                have c7 : w6.cell? ⟨w.heap.size + 1, 3, none⟩ = some (.slice A i cp) := hx6.cell 3
                have f7 := hx6.frozen 3
                refine hK.out _ _ trivial (fun hHeld => ?_)
                clear hK K
                (try simp only [List.getElem_toArray, List.getElem_cons_zero, List.getElem_cons_succ, Act.put, List.setIfInBounds_toArray, List.set_cons_zero, List.set_cons_succ])
                first | (refine wpAnyH_take (i := 8) (v := _) rfl (by kernel_rfl) (by kernel_rfl) (by kernel_rfl) (fun _ _ _ h => h) (Or.inr ⟨?_, rfl⟩) (by assumption) ?_; rfl) | (refine wpAnyH_take (i := 8) (v := ?_) rfl (by kernel_rfl) (by kernel_rfl) (by kernel_rfl) (fun _ _ _ h => h) (Or.inl ⟨?_, ?_⟩) (by assumption) ?_; rotate_left; rfl; focus (intro w hSw; (try dsimp only at hSw); go_simp; all_goals (with_reducible rfl)))
                (try simp only [List.getElem_toArray, List.getElem_cons_zero, List.getElem_cons_succ, Act.put, List.setIfInBounds_toArray, List.set_cons_zero, List.set_cons_succ])
                refine wpAnyH_ready (rs := [9]) (by kernel_rfl) (by simp) ?_
                refine AllReadyH.cons rfl (fun K hK => ?_) AllReadyH.nil
                have FIN := Lib.hid (node_fin hg.out hz.out hsz hx.out hgl hrd.out hown.out hks.out hdk.out hRd.out hlen hlt hK2 hg5r HR5.out hown6 hg6 hat6)
                clear hrdn hown6 hg6 hat6 hown5 HR5
                go_simp
                refine hK.out _ _ trivial (fun hHeld => ?_)
                clear hK K
                (try simp only [List.getElem_toArray, List.getElem_cons_zero, List.getElem_cons_succ, Act.put, List.setIfInBounds_toArray, List.set_cons_zero, List.set_cons_succ])
                refine wpAnyH_done (by kernel_rfl) ?_ _
                go_wp2_with fail
                exact ⟨⟨i + 1, by omega, by go_num, FIN.out⟩, by simp [intOf]; omega⟩
              · go_simp
                have c6 : (w5.alloc (.cells #[.int .i64 kd5, .int .i64 nm5, .string s5, .slice A5 m5 cp5] 35)).cell? ⟨w.heap.size + 1, 3, none⟩ = some (.slice A i cp) := (hx5.alloc _).cell 3
                refine hK.out _ _ trivial (fun hHeld => ?_)
                clear hK K
                (try simp only [List.getElem_toArray, List.getElem_cons_zero, List.getElem_cons_succ, Act.put, List.setIfInBounds_toArray, List.set_cons_zero, List.set_cons_succ])
                refine wpAnyH_ready (rs := [1]) (by kernel_rfl) (by simp) ?_
                refine AllReadyH.cons rfl (fun K hK => ?_) AllReadyH.nil
                go_simp
                refine hK.out _ _ trivial (fun hHeld => ?_)
                clear hK K
                (try simp only [List.getElem_toArray, List.getElem_cons_zero, List.getElem_cons_succ, Act.put, List.setIfInBounds_toArray, List.set_cons_zero, List.set_cons_succ])
                refine wpAnyH_ready (rs := [7]) (by kernel_rfl) (by simp) ?_
                refine AllReadyH.cons rfl (fun K hK => ?_) AllReadyH.nil
                have hrdn := reads_new w5 35 [.int .i64 kd5, .int .i64 nm5, .string s5, .slice A5 m5 cp5]
                refine step_append_any (w5.alloc (.cells #[.int .i64 kd5, .int .i64 nm5, .string s5, .slice A5 m5 cp5] 35)) rfl (.tmp 162) (.tmp 167) 33 rfl (w.heap.size + 2) 35 i0 _ 4 56 Try.underlying33 hi hz0' hz1' hz2' rfl (by decide) (.slice A i cp) i (List.flatten vs) rfl (hown5.alloc _) (w5.heap.size + 1) _ 1 1 [.int .i64 kd5, .int .i64 nm5, .string s5, .slice A5 m5 cp5] rfl hrdn (by simp [Value.oneCell']) (by unfold maxLen; omega) (by omega) (by simp; omega) ?_
                intro v' w6 hown6 hg6 hat6
                obtain ⟨A7, c7', rfl, _, _⟩ := own_reads hown6 (Nat.le_refl _)
                have hx6 : Blk w6 (w.heap.size + 1) 35 #[.int .i64 kd, .int .i64 nm, .string s, .slice A i cp] := (hx5.alloc (.cells #[.int .i64 kd5, .int .i64 nm5, .string s5, .slice A5 m5 cp5] 35)).grown hg6 (fun e => by have := (hown5.lt _ e.symm).1; omega)
                have c7 : w6.cell? ⟨w.heap.size + 1, 3, none⟩ = some (.slice A i cp) := hx6.cell 3
                have f7 := hx6.frozen 3
                refine hK.out _ _ trivial (fun hHeld => ?_)
                clear hK K
                (try simp only [List.getElem_toArray, List.getElem_cons_zero, List.getElem_cons_succ, Act.put, List.setIfInBounds_toArray, List.set_cons_zero, List.set_cons_succ])
                first | (refine wpAnyH_take (i := 8) (v := _) rfl (by kernel_rfl) (by kernel_rfl) (by kernel_rfl) (fun _ _ _ h => h) (Or.inr ⟨?_, rfl⟩) (by assumption) ?_; rfl) | (refine wpAnyH_take (i := 8) (v := ?_) rfl (by kernel_rfl) (by kernel_rfl) (by kernel_rfl) (fun _ _ _ h => h) (Or.inl ⟨?_, ?_⟩) (by assumption) ?_; rotate_left; rfl; focus (intro w hSw; (try dsimp only at hSw); go_simp; all_goals (with_reducible rfl)))
                (try simp only [List.getElem_toArray, List.getElem_cons_zero, List.getElem_cons_succ, Act.put, List.setIfInBounds_toArray, List.set_cons_zero, List.set_cons_succ])
                refine wpAnyH_ready (rs := [9]) (by kernel_rfl) (by simp) ?_
                refine AllReadyH.cons rfl (fun K hK => ?_) AllReadyH.nil
                have FIN := Lib.hid (node_fin hg.out hz.out hsz hx.out hgl hrd.out hown.out hks.out hdk.out hRd.out hlen hlt hK2 hg5r HR5.out hown6 hg6 hat6)
                clear hrdn hown6 hg6 hat6 hown5 HR5
                go_simp
                refine hK.out _ _ trivial (fun hHeld => ?_)
                clear hK K
                (try simp only [List.getElem_toArray, List.getElem_cons_zero, List.getElem_cons_succ, Act.put, List.setIfInBounds_toArray, List.set_cons_zero, List.set_cons_succ])
                refine wpAnyH_done (by kernel_rfl) ?_ _
                go_wp2_with fail
                exact ⟨⟨i + 1, by omega, by go_num, FIN.out⟩, by simp [intOf]; omega⟩
          · obtain rfl : i = K := by omega
            go_wp2_with (first
              | (refine wpList_load_at rfl 35 _ rfl ⟨w.heap.size + 1, 0, none⟩ rfl [.int .i64 kd, .int .i64 nm, .string s, .slice A i cp] _ (blk_cells hxx) Try.underlying35 rfl term_size ?_)
              | (refine wpList_store_blk rfl 35 _ _ rfl w.heap.size _ #[.int .i64 kd, .int .i64 nm, .string s, .slice A i cp] _ rfl rfl hzz rfl term_size (ones4 _ _ _ _ _ _) ?_))
            refine bodyPost_ret (results_cell_row Try.results68 _ _ w.heap.size _ _ _ _ rfl hzz.setRow Try.underlying35 rfl (by kernel_rfl)) rfl ?_
            have hRd' := hRd.out
            rw [hdk.out] at hRd'
            refine ⟨only_setRow hg.out (Nat.le_refl _) _, kd, nm, s, A, i, cp, rfl, ?_⟩
            rw [hRd']
            refine ⟨?_, hrd.out.grown (setRow_only _ w.heap.size _) (fun q e => by injection e with e; omega)⟩
            obtain ⟨A', cp', e', hcp', hrr⟩ := own_reads hown.out (Nat.le_refl _)
            injection e' with e1 _ e3
            subst e1 e3
            have hcap := own_cap hown.out
            have hlo := hown.out.lt
            refine (TmV.low (lo := w.heap.size + 2) ?_ (by omega))
            refine TmV.grown (w := wr) (row := some w.heap.size) ?_ (setRow_only _ w.heap.size _) (fun q e => by injection e with e; omega)
            rw [TmV]
            refine ⟨A, cp, vs, by rw [hlen]; rfl, by omega, hcap, by rw [hlen]; exact hrr, fun h0 ad e => ?_, hks.out.1⟩
            subst e
            exact (hown.out.lt ad.block (by obtain ⟨gb, ccap, hv, _, _⟩ := hown.out.form (by omega); injection hv with hv; injection hv with hv; subst hv; rfl)).1
end Go.Proofs.Ytekpdkjkkglcjaa
