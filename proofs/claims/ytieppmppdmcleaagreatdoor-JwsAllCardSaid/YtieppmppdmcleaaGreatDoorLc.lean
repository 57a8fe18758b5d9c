/- countersignlaw12.Value: one off the tape; it may be, and is small. No condition of its own. Printed by wip/tools/genLc.py. -/
import Derived.Test.YtieppmppdmcleaaGreatDoorLb
set_option linter.unusedVariables false
set_option linter.unusedSimpArgs false
set_option maxRecDepth 20000
namespace Go.Proofs.YtieppmppdmcleaaGreatDoor
open Go.RowKit Go.Maps
def ssJ : List ByteArray := [⟨#[]⟩, ⟨#[97]⟩, ⟨#[34]⟩, ⟨#[92]⟩, ⟨#[0]⟩, ⟨#[31]⟩, ⟨#[10]⟩, ⟨#[195, 169]⟩, ⟨#[127]⟩, ⟨#[126, 65, 103, 65, 65, 65, 65, 69, 126]⟩, ⟨#[104, 116, 116, 112, 115, 58, 47, 47, 97, 115]⟩]
def isJ : List Int := [0, 1, 7, 300, -1, 9007199254740992, -9007199254740992, 42]
abbrev cJi : Array Value := #[.int .i64 0, .int .i64 1, .int .i64 7, .int .i64 300, .int .i64 (-1), .int .i64 9007199254740992, .int .i64 (-9007199254740992), .int .i64 42]
abbrev cJs : Array Value := #[.string ⟨#[]⟩, .string ⟨#[97]⟩, .string ⟨#[34]⟩, .string ⟨#[92]⟩, .string ⟨#[0]⟩, .string ⟨#[31]⟩, .string ⟨#[10]⟩, .string ⟨#[195, 169]⟩, .string ⟨#[127]⟩, .string ⟨#[126, 65, 103, 65, 65, 65, 65, 69, 126]⟩, .string ⟨#[104, 116, 116, 112, 115, 58, 47, 47, 97, 115]⟩]
def szV : Nat → Nat | 0 => 12 | d + 1 => 10 + 3 * szV d
theorem szV_ge : ∀ d, 12 ≤ szV d
 | 0 => Nat.le_refl _
 | d + 1 => by have := szV_ge d; rw [szV]; omega
def lenV : Nat → Nat | 0 => 21 | d + 1 => 23 + 3 * lenV d
theorem lenV_ge : ∀ d, 21 ≤ lenV d
 | 0 => Nat.le_refl _
 | d + 1 => by have := lenV_ge d; rw [lenV]; omega
def FitV (d : Nat) (v : Jv) : Prop := (∀ deep, deep + d ≤ 8 → mayJ validL v deep = true) ∧ szJ v ≤ szV d ∧ (jprint v).length ≤ lenV d
def VR (d : Nat) (zs : List Int) (g : Nat) (w : World) (e : Ending) (w' : World) : Prop :=
 ∃ v cs k', e = .returned (.agg cs.toArray) ∧ JvV w' w.heap.size v cs ∧ TapeAt w' g zs k' ∧ w.grownBy w' (some g) ∧ FitV d v
def TapeV (d : Nat) : Prop := ∀ (zs : List Int) (g k : Nat) (w : World), TapeAt w g zs k → Calls Tryz.prog 25 #[.pointer (some ⟨g, 0, none⟩), .int .i64 (d : Int)] w (VR d zs g w)
theorem leaf_null (d : Nat) : FitV d (.mk 1 false 0 [] [] []) := ⟨fun deep _ => by rw [mayJ]; simp [aloneB, valid_nil], by have := szV_ge d; simp [szJ, szJs]; omega, by have := lenV_ge d; simp [jprint]; omega⟩
theorem leaf_bool (d : Nat) (b : Bool) : FitV d (.mk 2 b 0 [] [] []) := ⟨fun deep _ => by rw [mayJ]; simp [aloneB, valid_nil], by have := szV_ge d; simp [szJ, szJs]; omega, by have := lenV_ge d; cases b <;> simp [jprint] <;> omega⟩
theorem leaf_int (d : Nat) (n : Int) (h : -9007199254740992 ≤ n ∧ n ≤ 9007199254740992) : FitV d (.mk 3 false n [] [] []) := ⟨fun deep _ => by rw [mayJ]; simp [aloneB, valid_nil, h], by have := szV_ge d; simp [szJ, szJs]; omega, by have := lenV_ge d; have h2 := Lib.itoa_length_le n (by omega) (by omega); simp [jprint]; omega⟩
theorem leaf_text (d : Nat) (s : List UInt8) (h : validL s = true) (hl : s.length ≤ 10 ∧ (quotedL s).length ≤ 21) : FitV d (.mk 4 false 0 s [] []) := ⟨fun deep _ => by rw [mayJ]; simp [aloneB, h], by have := szV_ge d; simp [szJ, szJs]; omega, by have := lenV_ge d; simp [jprint]; omega⟩
structure StV (zs : List Int) (g : Nat) (w : World) (k : Nat) (W : World) : Prop where
 tape : TapeAt W g zs k
 grown : w.grownBy W (some g)
 blk : Blk W w.heap.size 26 #[.int .i64 0, .bool false, .int .i64 0, .string ⟨#[]⟩, .slice none 0 0, .slice none 0 0]
 lt : g < w.heap.size
section
variable {zs : List Int} {g k k' b : Nat} {w W W' : World} {t t' : TypeId} {cs cs' : Array Value}
theorem StV.below (h : StV zs g w k W) (hb : Below W.heap.size W W') : StV zs g w k W' := ⟨h.tape.grown (below_row hb none) (fun r e => by cases e), grown_below2 h.grown hb, h.blk.below hb h.blk.lt, h.lt⟩
theorem StV.alloc (h : StV zs g w k W) (o : Obj) : StV zs g w k (W.alloc o) := h.below ((Below.refl W.heap.size W).alloc (Nat.le_refl _) o)
theorem StV.call (h : StV zs g w k W) (ht : TapeAt W' g zs k') (hg : W.grownBy W' (some g)) : StV zs g w k' W' := ⟨ht, only_trans h.grown hg, h.blk.grown hg (fun e => by injection e with e; have := h.lt; omega), h.lt⟩
theorem StV.drew (h : StV zs g w k W) : StV zs g w k W.drew := h.below (Below.refl W.heap.size W).drew
structure MadeV (g : Nat) (w : World) (W : World) (b : Nat) (t : TypeId) (cs : Array Value) : Prop where
 blk : Blk W b t cs
 ne : g < b
 lo : w.heap.size < b
theorem StV.made (h : StV zs g w k W) (t : TypeId) (cs : Array Value) : MadeV g w (W.alloc (.cells cs t)) W.heap.size t cs := ⟨Blk.new W t cs, by have := h.tape.lt; exact this, h.blk.lt⟩
theorem MadeV.lt (h : MadeV g w W b t cs) : b + 1 ≤ W.heap.size := h.blk.lt
theorem MadeV.off (h : MadeV g w W b t cs) : ∀ p : Addr, (some ⟨b, 0, none⟩ : Option Addr) = some p → p.block ≠ g := fun p e => by injection e with e; subst e; show b ≠ g; have := h.ne; omega
theorem MadeV.alloc (h : MadeV g w W b t cs) (o : Obj) : MadeV g w (W.alloc o) b t cs := ⟨h.blk.alloc o, h.ne, h.lo⟩
theorem MadeV.call (h : MadeV g w W b t cs) (hg : W.grownBy W' (some g)) : MadeV g w W' b t cs := ⟨h.blk.grown hg (fun e => by injection e with e; have := h.ne; omega), h.ne, h.lo⟩
theorem MadeV.below (h : MadeV g w W b t cs) (hb : Below W.heap.size W W') : MadeV g w W' b t cs := ⟨h.blk.below hb h.blk.lt, h.ne, h.lo⟩
theorem vr_leaf {d : Nat} {kind : Int} {bb : Bool} {n : Int} {s : List UInt8} (h : StV zs g w k W) (hf : FitV d (.mk kind bb n s [] [])) :
  VR d zs g w (.returned (.agg #[.int .i64 kind, .bool bb, .int .i64 n, .string ⟨s.toArray⟩, .slice none 0 0, .slice none 0 0])) (W.setRow w.heap.size #[.int .i64 kind, .bool bb, .int .i64 n, .string ⟨s.toArray⟩, .slice none 0 0, .slice none 0 0]) := by
 have hsr := setRow_only W w.heap.size #[.int .i64 kind, .bool bb, .int .i64 n, .string ⟨s.toArray⟩, .slice none 0 0, .slice none 0 0]
 have hl := h.lt
 exact ⟨_, cells6 kind bb n s none 0 0 none 0 0, k, rfl, jv_leaf _ _ _ _ _ _, h.tape.grown hsr (fun r e => by injection e with e; omega), grown_then h.grown hsr (fun q e => .inr (by injection e with e; omega)), hf⟩
end
theorem isJ_all : ∀ r, r < 8 → cJi[r]? = some (.int .i64 (isJ.getD r 0)) ∧ -9007199254740992 ≤ isJ.getD r 0 ∧ isJ.getD r 0 ≤ 9007199254740992 := by
 intro r hr
 match r, hr with
 | 0, _ => exact ⟨rfl, by decide, by decide⟩
 | 1, _ => exact ⟨rfl, by decide, by decide⟩
 | 2, _ => exact ⟨rfl, by decide, by decide⟩
 | 3, _ => exact ⟨rfl, by decide, by decide⟩
 | 4, _ => exact ⟨rfl, by decide, by decide⟩
 | 5, _ => exact ⟨rfl, by decide, by decide⟩
 | 6, _ => exact ⟨rfl, by decide, by decide⟩
 | 7, _ => exact ⟨rfl, by decide, by decide⟩
theorem reads_blk {W : World} {b : Nat} {t : TypeId} {us : List Value} (h : Blk W b t us.toArray) : Reads W (b + 1) 1 (some ⟨b, 0, none⟩) us.length us := by
 refine ⟨by simp, fun _ => ⟨⟨b, 0, none⟩, rfl, Nat.lt_succ_self b, fun j u hu => ?_⟩⟩
 rw [show ((⟨b, 0, none⟩ : Addr).add j) = ⟨b, j, none⟩ by unfold Addr.add; split <;> simp_all, h.cell j]
 simpa using hu
theorem next8 (zs : List Int) (k : Nat) : ∃ r : Nat, nextR zs k 8 = r ∧ r < 8 := by
 have := nextR_pos zs k 8 (by omega)
 exact ⟨(nextR zs k 8).toNat, by omega, by omega⟩
theorem ssJ_all : ∀ r : Fin 11, validL (ssJ.getD r.val ByteArray.empty).data.toList = true ∧ ((ssJ.getD r.val ByteArray.empty).data.toList.length ≤ 10 ∧ (quotedL (ssJ.getD r.val ByteArray.empty).data.toList).length ≤ 21) := by decide +kernel
theorem ssJ_ok (zs : List Int) (k : Nat) : ∃ xl : List UInt8, ssJ.getD (nextR zs k ssJ.length).toNat ByteArray.empty = ⟨xl.toArray⟩ ∧ validL xl = true ∧ (xl.length ≤ 10 ∧ (quotedL xl).length ≤ 21) := by
 have h := nextR_pos zs k ssJ.length (by decide)
 have hl : (ssJ.length : Int) = 11 := rfl
 exact ⟨_, (str_eta _ _ rfl), ssJ_all ⟨(nextR zs k ssJ.length).toNat, by omega⟩⟩
theorem next4 (zs : List Int) (k : Nat) : ∃ r : Nat, nextR zs k 4 = r ∧ r < 4 := by
 have := nextR_pos zs k 4 (by omega)
 exact ⟨(nextR zs k 4).toNat, by omega, by omega⟩
def qs4 : List (List UInt8) := [[97], [98], [], [34]]
def ss4 : List ByteArray := [⟨#[97]⟩, ⟨#[98]⟩, ⟨#[]⟩, ⟨#[34]⟩]
abbrev cJ4 : Array Value := #[.string ⟨#[97]⟩, .string ⟨#[98]⟩, .string ⟨#[]⟩, .string ⟨#[34]⟩]
theorem ss4_all : ∀ r : Fin 4, (ss4.getD r.val ByteArray.empty).data.toList ∈ qs4 := by decide +kernel
theorem ss4_ok (zs : List Int) (k : Nat) : ∃ xl : List UInt8, ss4.getD (nextR zs k ss4.length).toNat ByteArray.empty = ⟨xl.toArray⟩ ∧ xl ∈ qs4 := by
 have h := nextR_pos zs k ss4.length (by decide)
 have hl : (ss4.length : Int) = 4 := rfl
 exact ⟨_, (str_eta _ _ rfl), ss4_all ⟨(nextR zs k ss4.length).toNat, by omega⟩⟩
theorem qs4_le : ∀ q ∈ qs4, q.length ≤ 2 := by decide
theorem byte_str (bt : UInt8) (bv : Nat) (h : bt.toNat = bv) (W : World) (b : Nat) (hb : Blk W b 5 #[.int .u8 (bv : Int)]) :
  (convert 31 9 (.slice (some ⟨b, 0, none⟩) 1 1)).run Tryz.prog W = .ok (.string ⟨#[bt]⟩) W := by
 have hr := reads_blk (us := Lib.byteCells [bt]) (t := 5) (b := b) (W := W) (by rw [show (Lib.byteCells [bt]).toArray = #[.int .u8 (bv : Int)] by simp [Lib.byteCells, h]]; exact hb)
 exact reads_str (l := [bt]) hr _ _ 5 Tryz.underlying31 Tryz.underlying5 Tryz.underlying9
def NameV (i : Nat) (p : List UInt8) : Prop := ∃ q j, q ∈ qs4 ∧ p = q ++ [UInt8.ofNat (48 + j)] ∧ i < j ∧ j ≤ 3
theorem nameV_all : ∀ q ∈ qs4, ∀ j : Fin 4, validL (q ++ [UInt8.ofNat (48 + j.val)]) = true ∧ ((q ++ [UInt8.ofNat (48 + j.val)]).length ≤ 2 ∧ (quotedL (q ++ [UInt8.ofNat (48 + j.val)])).length ≤ 5) := by decide +kernel
theorem NameV.ok {i : Nat} {p : List UInt8} (h : NameV i p) : validL p = true ∧ (p.length ≤ 2 ∧ (quotedL p).length ≤ 5) := by
 obtain ⟨q, j, hq, rfl, _, h3⟩ := h
 exact nameV_all q hq ⟨j, by omega⟩
theorem NameV.down {i : Nat} {p : List UInt8} (h : NameV (i + 1) p) : NameV i p := by
 obtain ⟨q, j, hq, rfl, h2, h3⟩ := h
 exact ⟨q, j, hq, rfl, by omega, h3⟩
theorem nameV_apart {i : Nat} {p q : List UInt8} (h : NameV i p) (hi : i ≤ 3) : p ≠ q ++ [UInt8.ofNat (48 + i)] := by
 obtain ⟨q', j, _, rfl, h2, h3⟩ := h
 intro e
 have h4 := (List.append_inj' e rfl).2
 injection h4 with h4 _
 have h5 := congrArg UInt8.toNat h4
 simp at h5
 omega
structure PartV (d : Nat) (obj : Bool) (i : Nat) (names : List (List UInt8)) (acc : List Jv) : Prop where
 few : i + acc.length ≤ 3
 len : names.length = if obj then acc.length else 0
 name : ∀ p ∈ names, NameV i p
 nodup : names.Nodup
 fit : ∀ x ∈ acc, FitV d x
theorem PartV.nil (d : Nat) (obj : Bool) (i : Nat) (h : i ≤ 3) : PartV d obj i [] [] := ⟨by simp; exact h, by cases obj <;> rfl, by simp, by simp, by simp⟩
theorem PartV.list {d i : Nat} {names : List (List UInt8)} {acc : List Jv} (h : PartV d false (i + 1) names acc) {x : Jv} (hx : FitV d x) : PartV d false i names (acc ++ [x]) :=
 ⟨by have := h.few; simp; omega, h.len, fun p hp => (h.name p hp).down, h.nodup, fun y hy => by
  rcases List.mem_append.1 hy with h1 | h1
  ·
   exact h.fit y h1
  ·
   rw [List.mem_singleton.1 h1]; exact hx⟩
theorem PartV.obj {d i : Nat} {names : List (List UInt8)} {acc : List Jv} (h : PartV d true (i + 1) names acc) {x : Jv} (hx : FitV d x) {q : List UInt8} (hq : q ∈ qs4) : PartV d true i (names ++ [q ++ [UInt8.ofNat (48 + (i + 1))]]) (acc ++ [x]) := by
 have hf := h.few
 refine ⟨by simp; omega, by have := h.len; simp at this ⊢; exact this, fun p hp => ?_, ?_, fun y hy => ?_⟩
 ·
  rcases List.mem_append.1 hp with h1 | h1
  ·
   exact (h.name p h1).down
  ·
   rw [List.mem_singleton.1 h1]; exact ⟨q, i + 1, hq, rfl, by omega, by omega⟩
 ·
  refine List.nodup_append.2 ⟨h.nodup, by simp, fun a ha b hb => ?_⟩
  rw [List.mem_singleton.1 hb]
  exact nameV_apart (h.name a ha) (by omega)
 ·
  rcases List.mem_append.1 hy with h1 | h1
  ·
   exact h.fit y h1
  ·
   rw [List.mem_singleton.1 h1]; exact hx
theorem PartV.done {d : Nat} {obj : Bool} {names : List (List UInt8)} {acc : List Jv} (h : PartV d obj 0 names acc) : FitV (d + 1) (.mk (if obj then 6 else 5) false 0 [] names acc) := by
 have hfew := h.few
 refine ⟨fun deep hd => ?_, ?_, ?_⟩
 ·
  have hm : mayJs validL acc (deep + 1) = true := mayJs_good fun j k hj hk => (h.fit k (List.mem_of_getElem? hk)).1 (deep + 1) (by omega)
  cases obj
  ·
   have hn : names = [] := List.length_eq_zero_iff.1 h.len
   subst hn
   exact may_list hm (by omega)
  ·
   exact may_obj hm (by omega) (fun x hx => (h.name x hx).ok.1) h.nodup h.len
 ·
  have h1 : szJs acc ≤ acc.length * szV d := by
   have := h.fit
   clear hfew h
   induction acc with
   | nil => simp [szJs]
   | cons x a ih =>
    rw [szJs, List.length_cons, Nat.add_mul]
    have h2 := (this x (by simp)).2.1
    have h3 := ih (fun y hy => this y (by simp [hy]))
    omega
  have h2 : (names.map fun p => p.length + 1).sum ≤ names.length * 3 := by
   have := h.name
   clear hfew h h1
   induction names with
   | nil => simp
   | cons x a ih =>
    simp only [List.map_cons, List.sum_cons, List.length_cons]
    have h2 := (this x (by simp)).ok.2.1
    have h3 := ih (fun y hy => this y (by simp [hy]))
    omega
  have h3 : names.length ≤ acc.length := by rw [h.len]; split <;> omega
  have h4 : acc.length * szV d ≤ 3 * szV d := Nat.mul_le_mul_right _ (by omega)
  rw [szJ, szV]
  simp only [List.length_nil]
  omega
 ·
  have hk : ∀ x ∈ acc, (jprint x).length ≤ lenV d := fun x hx => (h.fit x hx).2.2
  have h4 : acc.length * (lenV d + 7) ≤ 3 * (lenV d + 7) := Nat.mul_le_mul_right _ (by omega)
  cases obj
  ·
   have h1 : lens1 (jprintL acc) ≤ acc.length * (lenV d + 7) := by
    clear h hfew h4
    induction acc with
    | nil => simp [jprintL, lens1]
    | cons x a ih =>
     have h2 := hk x (by simp)
     have h3 := ih (fun y hy => hk y (by simp [hy]))
     rw [jprintL, List.length_cons, Nat.add_mul]
     simp only [lens1, List.map_cons, List.sum_cons] at h3 ⊢
     omega
   have h2 := jp_lens (jprintL acc)
   rw [jprint, lenV]
   simp
   omega
  ·
   have hn : ∀ x ∈ names, (quotedL x).length ≤ 5 := fun x hx => (h.name x hx).ok.2.2
   have hl : names.length = acc.length := by have := h.len; simpa using this
   have h1 : lens1 (jprintO names acc) ≤ acc.length * (lenV d + 7) := by
    clear h hfew h4
    induction acc generalizing names with
    | nil => simp [jprintO, lens1]
    | cons x a ih =>
     cases names with
     | nil => simp at hl
     | cons q qs =>
      have h2 := hk x (by simp)
      have h5 := hn q (by simp)
      have h3 := ih (names := qs) (fun y hy => hk y (by simp [hy])) (fun y hy => hn y (by simp [hy])) (by simpa using hl)
      rw [jprintO, List.length_cons, Nat.add_mul]
      simp only [lens1, List.map_cons, List.sum_cons, List.headD_cons, List.tail_cons, List.length_append, List.length_cons] at h3 ⊢
      omega
   have h2 := jp_lens (jprintO names acc)
   rw [jprint, lenV]
   simp
   omega
theorem Kids.name2 {w w' : World} {lo : Nat} {nv nv' av : Value} {names : List (List UInt8)} {acc : List Jv} {t : List UInt8} (h : Kids w lo nv names av acc)
  (h3 : w'.ownsRow lo 9 1 nv' (names.length + 1) (strVs names ++ [strV t])) (h4 : w.grownBy w' nv.ownBlock) (h5 : nv'.ownBlock = nv.ownBlock ∨ nv'.ownBlock = some w.heap.size) : Kids w' lo nv' (names ++ [t]) av acc := by
 obtain ⟨vs, h0, h1, h2⟩ := h
 refine ⟨vs, by rw [List.length_append]; simpa [strVs] using h3, h1.kept h4 (own_apart h1 h0 (by decide)), ?_⟩
 refine JvsP.keep (fun p hp hd => World.cell?_of_block (h4.block _ hp (fun e => hd.2.2 e))) (fun b hb hd => ⟨hd.1, hd.2.1, ?_⟩) h4.size _ _ h2
 rcases h5 with e | e <;> rw [e]
 ·
  exact hd.2.2
 ·
  intro e2
  injection e2 with e2
  omega
theorem Kids.snoc2 {w w' : World} {lo lo2 : Nat} {nv av av' : Value} {names : List (List UInt8)} {acc : List Jv} {v : Jv} {cs : List Value} {vs : List (List Value)}
  (h0 : w.ownsRow lo 9 1 nv names.length (strVs names)) (h1 : w.ownsRow lo 26 6 av acc.length vs.flatten) (h2 : JvsP w (fun b => lo ≤ b ∧ some b ≠ av.ownBlock ∧ some b ≠ nv.ownBlock) acc vs)
  (hv : JvV w lo2 v cs) (hlo : lo ≤ lo2) (ha : ∀ q, av.ownBlock = some q → q < lo2) (hn : ∀ q, nv.ownBlock = some q → q < lo2)
  (h3 : w'.ownsRow lo 26 6 av' (acc.length + 1) (vs.flatten ++ cs)) (h4 : w.grownBy w' av.ownBlock) (h5 : av'.ownBlock = av.ownBlock ∨ av'.ownBlock = some w.heap.size) : Kids w' lo nv names av' (acc ++ [v]) := by
 have hD : ∀ b, lo2 ≤ b → b < w.heap.size → (lo ≤ b ∧ some b ≠ av.ownBlock ∧ some b ≠ nv.ownBlock) := fun b hb _ => ⟨by omega, fun e => by have := ha b e.symm; omega, fun e => by have := hn b e.symm; omega⟩
 have h6 := JvsP.snoc (JvV.toP hD v cs hv) h2
 refine ⟨vs ++ [cs], h0.kept h4 (own_apart h0 h1 (by decide)), by rw [List.length_append, List.flatten_append]; simpa using h3, ?_⟩
 refine JvsP.keep (fun p hp hd => World.cell?_of_block (h4.block _ hp (fun e => hd.2.1 e))) (fun b hb hd => ⟨hd.1, ?_, hd.2.2⟩) h4.size _ _ h6
 rcases h5 with e | e <;> rw [e]
 ·
  exact hd.2.1
 ·
  intro e2
  injection e2 with e2
  omega
structure LoopV (zs : List Int) (g : Nat) (w : World) (k : Nat) (cs6 : Array Value) (nv : Value) (names : List (List UInt8)) (av : Value) (acc : List Jv) (W : World) : Prop where
 st : StV zs g w k W
 b6 : Blk W (w.heap.size + 1) 26 cs6
 kids : Kids W (w.heap.size + 2) nv names av acc
section
variable {zs : List Int} {g k k' : Nat} {w W W' : World} {cs6 : Array Value} {nv av nv' av' : Value} {names : List (List UInt8)} {acc : List Jv}
theorem LoopV.below (h : LoopV zs g w k cs6 nv names av acc W) (hb : Below W.heap.size W W') : LoopV zs g w k cs6 nv names av acc W' := ⟨h.st.below hb, h.b6.below hb h.b6.lt, h.kids.grown (below_row hb none) (by simp)⟩
theorem LoopV.alloc (h : LoopV zs g w k cs6 nv names av acc W) (o : Obj) : LoopV zs g w k cs6 nv names av acc (W.alloc o) := h.below ((Below.refl W.heap.size W).alloc (Nat.le_refl _) o)
theorem LoopV.drew (h : LoopV zs g w k cs6 nv names av acc W) : LoopV zs g w k cs6 nv names av acc W.drew := h.below (Below.refl W.heap.size W).drew
theorem LoopV.call (h : LoopV zs g w k cs6 nv names av acc W) (ht : TapeAt W' g zs k') (hg : W.grownBy W' (some g)) : LoopV zs g w k' cs6 nv names av acc W' :=
 ⟨h.st.call ht hg, h.b6.grown hg (fun e => by injection e with e; have := h.st.lt; omega), h.kids.grown hg (fun q e => by injection e with e; have := h.st.lt; omega)⟩
theorem LoopV.made (h : LoopV zs g w k cs6 nv names av acc W) (t : TypeId) (cs : Array Value) : MadeV g w (W.alloc (.cells cs t)) W.heap.size t cs := h.st.made t cs
theorem StV.row (h : StV zs g w k W) {row : Option Nat} (hg : W.grownBy W' row) (hr : ∀ q, row = some q → w.heap.size < q) : StV zs g w k W' :=
 ⟨h.tape.grown hg (fun r e => by have := hr r e; have := h.lt; omega), grown_then h.grown hg (fun q e => .inr (by have := hr q e; omega)), h.blk.grown hg (fun e => by have := hr _ e.symm; omega), h.lt⟩
theorem LoopV.name (h : LoopV zs g w k cs6 nv names av acc W) {t : List UInt8} (ho : W'.ownsRow (w.heap.size + 2) 9 1 nv' (names.length + 1) (strVs names ++ [strV t])) (hg : W.grownBy W' nv.ownBlock) (hn : nv'.ownBlock = nv.ownBlock ∨ nv'.ownBlock = some W.heap.size) :
  LoopV zs g w k cs6 nv' (names ++ [t]) av acc W' := by
 obtain ⟨vs, h0, _, _⟩ := h.kids
 have hlo : ∀ q, nv.ownBlock = some q → w.heap.size + 2 ≤ q := fun q e => (h0.lt q e).1
 exact ⟨h.st.row hg (fun q e => by have := hlo q e; omega), h.b6.grown hg (fun e => by have := hlo _ e.symm; omega), h.kids.name2 ho hg hn⟩
theorem LoopV.kid (h : LoopV zs g w k cs6 nv names av acc W) {v : Jv} {cs : List Value} {lo2 : Nat} {vs : List (List Value)} (h0 : W.ownsRow (w.heap.size + 2) 9 1 nv names.length (strVs names)) (h1 : W.ownsRow (w.heap.size + 2) 26 6 av acc.length vs.flatten) (h2 : JvsP W (fun b => w.heap.size + 2 ≤ b ∧ some b ≠ av.ownBlock ∧ some b ≠ nv.ownBlock) acc vs)
  (hv : JvV W lo2 v cs) (hlo : w.heap.size + 2 ≤ lo2) (ha : ∀ q, av.ownBlock = some q → q < lo2) (hn : ∀ q, nv.ownBlock = some q → q < lo2)
  (h3 : W'.ownsRow (w.heap.size + 2) 26 6 av' (acc.length + 1) (vs.flatten ++ cs)) (h4 : W.grownBy W' av.ownBlock) (h5 : av'.ownBlock = av.ownBlock ∨ av'.ownBlock = some W.heap.size) : LoopV zs g w k cs6 nv names av' (acc ++ [v]) W' := by
 have hlo' : ∀ q, av.ownBlock = some q → w.heap.size + 2 ≤ q := fun q e => (h1.lt q e).1
 exact ⟨h.st.row h4 (fun q e => by have := hlo' q e; omega), h.b6.grown h4 (fun e => by have := hlo' _ e.symm; omega), Kids.snoc2 h0 h1 h2 hv hlo ha hn h3 h4 h5⟩
theorem LoopV.set_ (h : LoopV zs g w k cs6 nv names av acc W) (i : Nat) (u : Value) : LoopV zs g w k (cs6.setIfInBounds i u) nv names av acc (W.setCell ⟨w.heap.size + 1, i, none⟩ u) := by
 have hg : W.grownBy (W.setCell ⟨w.heap.size + 1, i, none⟩ u) (some (w.heap.size + 1)) := ⟨rfl, rfl, rfl, by simp, fun q _ hne => Below.heap_setCell _ _ _ _ (fun e => hne (by rw [e]))⟩
 exact ⟨h.st.row hg (fun q e => by injection e with e; omega), h.b6.set_ i u, h.kids.grown hg (fun q e => by injection e with e; omega)⟩
theorem MadeV.row {t : TypeId} {b : Nat} {cs : Array Value} (h : MadeV g w W b t cs) {row : Option Nat} (hg : W.grownBy W' row) (hr : some b ≠ row) : MadeV g w W' b t cs := ⟨h.blk.grown hg hr, h.ne, h.lo⟩
end
theorem own_blk_new {W : World} {lo : Nat} {e : TypeId} {size n : Nat} {v : Value} {xs : List Value} (h : W.ownsRow lo e size v n xs) : some W.heap.size ≠ v.ownBlock := fun e => by have := (h.lt _ e.symm).2; omega
theorem LoopV.new {zs : List Int} {g k : Nat} {w W : World} {cs6 : Array Value} {nv av : Value} {names : List (List UInt8)} {acc : List Jv} (h : LoopV zs g w k cs6 nv names av acc W) : some W.heap.size ≠ nv.ownBlock ∧ some W.heap.size ≠ av.ownBlock := by
 obtain ⟨_, h0, h1, _⟩ := h.kids
 exact ⟨own_blk_new h0, own_blk_new h1⟩
theorem vr_many {d : Nat} {zs : List Int} {g k : Nat} {w W : World} {cs6 : Array Value} {nv av : Value} {names : List (List UInt8)} {acc : List Jv} {kind : Int} {NA A : Option Addr} {nn nc m c : Nat} (h : LoopV zs g w k cs6 nv names av acc W) (hn : nv = .slice NA nn nc) (ha : av = .slice A m c) (hf : FitV d (.mk kind false 0 [] names acc)) (cells : Array Value) :
  VR d zs g w (.returned (.agg #[.int .i64 kind, .bool false, .int .i64 0, .string ⟨#[]⟩, .slice NA nn nc, .slice A m c])) (W.setRow w.heap.size cells) := by
 have hsr := setRow_only W w.heap.size cells
 have hl := h.st.lt
 obtain ⟨NAx, ncx, Ax, cx, e1, e2, hjv⟩ := h.kids.value kind false 0 []
 rw [hn] at e1
 rw [ha] at e2
 injection e1 with e1 e1' e1''
 injection e2 with e2 e2' e2''
 subst e1 e1' e1'' e2 e2' e2''
 exact ⟨_, _, k, rfl, (hjv.grown hsr (fun q e => by injection e with e; omega)).low (by omega), h.st.tape.grown hsr (fun r e => by injection e with e; omega), grown_then h.st.grown hsr (fun q e => .inr (by injection e with e; omega)), hf⟩
set_option maxHeartbeats 16000000 in
theorem value_tape (d : Nat) (hd8 : d ≤ 100) (hrec : ∀ d', d = d' + 1 → TapeV d') : TapeV d := by
 intro zs g k w ht
 have hgw := ht.lt
 have HS0 : Hid (StV zs g w k (w.alloc (.cells #[.int .i64 0, .bool false, .int .i64 0, .string ⟨#[]⟩, .slice none 0 0, .slice none 0 0] 26))) :=
  ⟨ht.grown (only_alloc (only_refl w none) _) (fun r e => by cases e), only_alloc (only_refl w (some g)) _, Blk.new w 26 _, hgw⟩
 have cn := Lib.hid (next_walk zs g k 9 _ HS0.out.tape (by omega))
 have hp := nextR_pos zs k 9 (by omega)
 obtain ⟨r0, er⟩ : ∃ r : Nat, nextR zs k 9 = r := ⟨(nextR zs k 9).toNat, by omega⟩
 rw [er] at cn hp
 have HREC := Lib.hid hrec
 clear er ht hrec
 go_enter Tryz.func25, Tryz.ntmps25
 go_wp2_with fail
 refine cn.out.mono ?_
 rintro _ W1 ⟨rfl, ht1, hg1, hs1⟩
 have HS := Lib.hid (HS0.out.call ht1 hg1)
 have HZ1 : Hid (W1.heap.size = w.heap.size + 1) := by show _ = _; rw [hs1]; simp
 clear ht1 hg1 hs1 HS0 cn
 generalize nextA zs k 9 = k1 at *
 by_cases hd0 : d = 0
 ·
  subst hd0
  rcases (show r0 = 0 ∨ r0 = 1 ∨ r0 = 2 ∨ r0 = 3 ∨ r0 = 4 ∨ r0 = 5 ∨ r0 = 6 ∨ r0 = 7 ∨ r0 = 8 by omega) with rfl | rfl | rfl | rfl | rfl | rfl | rfl | rfl | rfl
  ·
   go_wp2_with (refine wpList_store_blk rfl 26 _ _ rfl w.heap.size _ #[.int .i64 1, .bool false, .int .i64 0, .string ⟨#[]⟩, .slice none 0 0, .slice none 0 0] 26 rfl rfl HS.out.blk rfl jv_size (jv_ones _ _ _ _ _ _ _ _ _ _) ?_)
   refine bodyPost_ret (results_cell_row Tryz.results25 _ _ w.heap.size _ _ _ _ rfl HS.out.blk.setRow Tryz.underlying26 rfl (by kernel_rfl)) rfl ?_
   exact vr_leaf HS.out (leaf_null _)
  ·
   have cn := Lib.hid (next_walk zs g k1 2 _ HS.out.tape (by omega))
   go_wp2_with fail
   refine cn.out.mono ?_
   rintro _ W2 ⟨rfl, ht2, hg2, hs2⟩
   have HS2 := Lib.hid (HS.out.call ht2 hg2)
   clear ht2 hg2 hs2 HS cn
   have cb := Lib.hid (fun b => b_walk W2 b)
   generalize nextR zs k1 2 = r2 at *
   go_wp2_with fail
   refine (cb.out _).mono ?_
   rintro _ W3 ⟨rfl, hb3⟩
   have HS3 := Lib.hid (HS2.out.below hb3)
   clear hb3 HS2 cb
   generalize (r2 == 1) = bb at *
   go_wp2_with (refine wpList_store_blk rfl 26 _ _ rfl w.heap.size _ #[.int .i64 2, .bool bb, .int .i64 0, .string ⟨#[]⟩, .slice none 0 0, .slice none 0 0] 26 rfl rfl HS3.out.blk rfl jv_size (jv_ones _ _ _ _ _ _ _ _ _ _) ?_)
   refine bodyPost_ret (results_cell_row Tryz.results25 _ _ w.heap.size _ _ _ _ rfl HS3.out.blk.setRow Tryz.underlying26 rfl (by kernel_rfl)) rfl ?_
   exact vr_leaf HS3.out (leaf_bool _ bb)
  ·
   have HB1 := Lib.hid (HS.out.made 3 cJi)
   have HS1 := Lib.hid (HS.out.alloc (.cells cJi 3))
   obtain ⟨r, er, hr8⟩ := next8 zs k1
   obtain ⟨n, hn⟩ : ∃ n, isJ.getD r 0 = n := ⟨_, rfl⟩
   have hall := isJ_all r hr8
   rw [hn] at hall
   obtain ⟨hc, hn1, hn2⟩ := hall
   have HLF := Lib.hid (leaf_int (0) n ⟨hn1, hn2⟩)
   have HC := Lib.hid hc
   clear HS hn hc hn1 hn2
   go_wp2_with fail
   generalize W1.alloc (.cells cJi 3) = W2 at HB1 HS1 ⊢
   generalize W1.heap.size = b1 at HB1 ⊢
   have cn := Lib.hid (next_walk zs g k1 8 _ HS1.out.tape (by omega))
   rw [er] at cn
   clear er
   refine cn.out.mono ?_
   rintro _ W3 ⟨rfl, ht3, hg3, hs3⟩
   have HS3 := Lib.hid (HS1.out.call ht3 hg3)
   have hcell : W3.cell? ⟨b1, r, none⟩ = some (.int .i64 n) := ((HB1.out.call hg3).blk.cell r).trans HC.out
   have cb := Lib.hid (i_walk W3 n)
   clear ht3 hg3 hs3 HS1 HB1 cn HC
   go_wp2_with fail
   refine cb.out.mono ?_
   rintro _ W4 ⟨rfl, hb4⟩
   have HS4 := Lib.hid (HS3.out.below hb4)
   clear hb4 HS3 cb hcell
   go_wp2_with (refine wpList_store_blk rfl 26 _ _ rfl w.heap.size _ #[.int .i64 3, .bool false, .int .i64 n, .string ⟨#[]⟩, .slice none 0 0, .slice none 0 0] 26 rfl rfl HS4.out.blk rfl jv_size (jv_ones _ _ _ _ _ _ _ _ _ _) ?_)
   refine bodyPost_ret (results_cell_row Tryz.results25 _ _ w.heap.size _ _ _ _ rfl HS4.out.blk.setRow Tryz.underlying26 rfl (by kernel_rfl)) rfl ?_
   exact vr_leaf HS4.out HLF.out
  ·
   have HB1 := Lib.hid (HS.out.made 3 cJi)
   have HS1 := Lib.hid (HS.out.alloc (.cells cJi 3))
   obtain ⟨r, er, hr8⟩ := next8 zs k1
   obtain ⟨n, hn⟩ : ∃ n, isJ.getD r 0 = n := ⟨_, rfl⟩
   have hall := isJ_all r hr8
   rw [hn] at hall
   obtain ⟨hc, hn1, hn2⟩ := hall
   have HLF := Lib.hid (leaf_int (0) n ⟨hn1, hn2⟩)
   have HC := Lib.hid hc
   clear HS hn hc hn1 hn2
   go_wp2_with fail
   generalize W1.alloc (.cells cJi 3) = W2 at HB1 HS1 ⊢
   generalize W1.heap.size = b1 at HB1 ⊢
   have cn := Lib.hid (next_walk zs g k1 8 _ HS1.out.tape (by omega))
   rw [er] at cn
   clear er
   refine cn.out.mono ?_
   rintro _ W3 ⟨rfl, ht3, hg3, hs3⟩
   have HS3 := Lib.hid (HS1.out.call ht3 hg3)
   have hcell : W3.cell? ⟨b1, r, none⟩ = some (.int .i64 n) := ((HB1.out.call hg3).blk.cell r).trans HC.out
   have cb := Lib.hid (i_walk W3 n)
   clear ht3 hg3 hs3 HS1 HB1 cn HC
   go_wp2_with fail
   refine cb.out.mono ?_
   rintro _ W4 ⟨rfl, hb4⟩
   have HS4 := Lib.hid (HS3.out.below hb4)
   clear hb4 HS3 cb hcell
   go_wp2_with (refine wpList_store_blk rfl 26 _ _ rfl w.heap.size _ #[.int .i64 3, .bool false, .int .i64 n, .string ⟨#[]⟩, .slice none 0 0, .slice none 0 0] 26 rfl rfl HS4.out.blk rfl jv_size (jv_ones _ _ _ _ _ _ _ _ _ _) ?_)
   refine bodyPost_ret (results_cell_row Tryz.results25 _ _ w.heap.size _ _ _ _ rfl HS4.out.blk.setRow Tryz.underlying26 rfl (by kernel_rfl)) rfl ?_
   exact vr_leaf HS4.out HLF.out
  ·
   have HB1 := Lib.hid (HS.out.made 9 cJs)
   have HS1 := Lib.hid (HS.out.alloc (.cells cJs 9))
   obtain ⟨xl, hx, hxv, hxl⟩ := ssJ_ok zs k1
   have HLF := Lib.hid (leaf_text (0) xl hxv hxl)
   have HX := Lib.hid hx
   clear HS hx hxv hxl
   go_wp2_with fail
   generalize W1.alloc (.cells cJs 9) = W2 at HB1 HS1 ⊢
   generalize W1.heap.size = b1 at HB1 ⊢
   have cn := pick_walk zs g k1 _ 11 (b1 + 1) ssJ (by decide) (by decide) (by decide) W2 HS1.out.tape (reads_blk (us := ssJ.map Value.string) HB1.out.blk) HB1.out.lt HB1.out.off
   rw [HX.out] at cn
   refine cn.mono ?_
   rintro _ W3 ⟨rfl, ht3, hg3, hs3⟩
   have HS3 := Lib.hid (HS1.out.call ht3 hg3)
   clear ht3 hg3 hs3 HS1 HB1 cn HX
   generalize hz : (⟨xl.toArray⟩ : ByteArray) = z
   have HZ := Lib.hid hz
   clear hz
   have cb := Lib.hid (s_walk W3 z)
   go_wp2_with fail
   refine cb.out.mono ?_
   rintro _ W4 ⟨rfl, hb4⟩
   have HS4 := Lib.hid (HS3.out.below hb4)
   clear hb4 HS3 cb
   go_wp2_with (refine wpList_store_blk rfl 26 _ _ rfl w.heap.size _ #[.int .i64 4, .bool false, .int .i64 0, .string z, .slice none 0 0, .slice none 0 0] 26 rfl rfl HS4.out.blk rfl jv_size (jv_ones _ _ _ _ _ _ _ _ _ _) ?_)
   refine bodyPost_ret (results_cell_row Tryz.results25 _ _ w.heap.size _ _ _ _ rfl HS4.out.blk.setRow Tryz.underlying26 rfl (by kernel_rfl)) rfl ?_
   rw [← HZ.out]
   exact vr_leaf HS4.out HLF.out
  ·
   have HB1 := Lib.hid (HS.out.made 9 cJs)
   have HS1 := Lib.hid (HS.out.alloc (.cells cJs 9))
   obtain ⟨xl, hx, hxv, hxl⟩ := ssJ_ok zs k1
   have HLF := Lib.hid (leaf_text (0) xl hxv hxl)
   have HX := Lib.hid hx
   clear HS hx hxv hxl
   go_wp2_with fail
   generalize W1.alloc (.cells cJs 9) = W2 at HB1 HS1 ⊢
   generalize W1.heap.size = b1 at HB1 ⊢
   have cn := pick_walk zs g k1 _ 11 (b1 + 1) ssJ (by decide) (by decide) (by decide) W2 HS1.out.tape (reads_blk (us := ssJ.map Value.string) HB1.out.blk) HB1.out.lt HB1.out.off
   rw [HX.out] at cn
   refine cn.mono ?_
   rintro _ W3 ⟨rfl, ht3, hg3, hs3⟩
   have HS3 := Lib.hid (HS1.out.call ht3 hg3)
   clear ht3 hg3 hs3 HS1 HB1 cn HX
   generalize hz : (⟨xl.toArray⟩ : ByteArray) = z
   have HZ := Lib.hid hz
   clear hz
   have cb := Lib.hid (s_walk W3 z)
   go_wp2_with fail
   refine cb.out.mono ?_
   rintro _ W4 ⟨rfl, hb4⟩
   have HS4 := Lib.hid (HS3.out.below hb4)
   clear hb4 HS3 cb
   go_wp2_with (refine wpList_store_blk rfl 26 _ _ rfl w.heap.size _ #[.int .i64 4, .bool false, .int .i64 0, .string z, .slice none 0 0, .slice none 0 0] 26 rfl rfl HS4.out.blk rfl jv_size (jv_ones _ _ _ _ _ _ _ _ _ _) ?_)
   refine bodyPost_ret (results_cell_row Tryz.results25 _ _ w.heap.size _ _ _ _ rfl HS4.out.blk.setRow Tryz.underlying26 rfl (by kernel_rfl)) rfl ?_
   rw [← HZ.out]
   exact vr_leaf HS4.out HLF.out
  ·
   go_wp2_with (refine wpList_store_blk rfl 26 _ _ rfl w.heap.size _ #[.int .i64 1, .bool false, .int .i64 0, .string ⟨#[]⟩, .slice none 0 0, .slice none 0 0] 26 rfl rfl HS.out.blk rfl jv_size (jv_ones _ _ _ _ _ _ _ _ _ _) ?_)
   refine bodyPost_ret (results_cell_row Tryz.results25 _ _ w.heap.size _ _ _ _ rfl HS.out.blk.setRow Tryz.underlying26 rfl (by kernel_rfl)) rfl ?_
   exact vr_leaf HS.out (leaf_null _)
  ·
   have cn := Lib.hid (next_walk zs g k1 2 _ HS.out.tape (by omega))
   go_wp2_with fail
   refine cn.out.mono ?_
   rintro _ W2 ⟨rfl, ht2, hg2, hs2⟩
   have HS2 := Lib.hid (HS.out.call ht2 hg2)
   clear ht2 hg2 hs2 HS cn
   have cb := Lib.hid (fun b => b_walk W2 b)
   generalize nextR zs k1 2 = r2 at *
   go_wp2_with fail
   refine (cb.out _).mono ?_
   rintro _ W3 ⟨rfl, hb3⟩
   have HS3 := Lib.hid (HS2.out.below hb3)
   clear hb3 HS2 cb
   generalize (r2 == 1) = bb at *
   go_wp2_with (refine wpList_store_blk rfl 26 _ _ rfl w.heap.size _ #[.int .i64 2, .bool bb, .int .i64 0, .string ⟨#[]⟩, .slice none 0 0, .slice none 0 0] 26 rfl rfl HS3.out.blk rfl jv_size (jv_ones _ _ _ _ _ _ _ _ _ _) ?_)
   refine bodyPost_ret (results_cell_row Tryz.results25 _ _ w.heap.size _ _ _ _ rfl HS3.out.blk.setRow Tryz.underlying26 rfl (by kernel_rfl)) rfl ?_
   exact vr_leaf HS3.out (leaf_bool _ bb)
  ·
   have HB1 := Lib.hid (HS.out.made 3 cJi)
   have HS1 := Lib.hid (HS.out.alloc (.cells cJi 3))
   obtain ⟨r, er, hr8⟩ := next8 zs k1
   obtain ⟨n, hn⟩ : ∃ n, isJ.getD r 0 = n := ⟨_, rfl⟩
   have hall := isJ_all r hr8
   rw [hn] at hall
   obtain ⟨hc, hn1, hn2⟩ := hall
   have HLF := Lib.hid (leaf_int (0) n ⟨hn1, hn2⟩)
   have HC := Lib.hid hc
   clear HS hn hc hn1 hn2
   go_wp2_with fail
   generalize W1.alloc (.cells cJi 3) = W2 at HB1 HS1 ⊢
   generalize W1.heap.size = b1 at HB1 ⊢
   have cn := Lib.hid (next_walk zs g k1 8 _ HS1.out.tape (by omega))
   rw [er] at cn
   clear er
   refine cn.out.mono ?_
   rintro _ W3 ⟨rfl, ht3, hg3, hs3⟩
   have HS3 := Lib.hid (HS1.out.call ht3 hg3)
   have hcell : W3.cell? ⟨b1, r, none⟩ = some (.int .i64 n) := ((HB1.out.call hg3).blk.cell r).trans HC.out
   have cb := Lib.hid (i_walk W3 n)
   clear ht3 hg3 hs3 HS1 HB1 cn HC
   go_wp2_with fail
   refine cb.out.mono ?_
   rintro _ W4 ⟨rfl, hb4⟩
   have HS4 := Lib.hid (HS3.out.below hb4)
   clear hb4 HS3 cb hcell
   go_wp2_with (refine wpList_store_blk rfl 26 _ _ rfl w.heap.size _ #[.int .i64 3, .bool false, .int .i64 n, .string ⟨#[]⟩, .slice none 0 0, .slice none 0 0] 26 rfl rfl HS4.out.blk rfl jv_size (jv_ones _ _ _ _ _ _ _ _ _ _) ?_)
   refine bodyPost_ret (results_cell_row Tryz.results25 _ _ w.heap.size _ _ _ _ rfl HS4.out.blk.setRow Tryz.underlying26 rfl (by kernel_rfl)) rfl ?_
   exact vr_leaf HS4.out HLF.out
 ·
  obtain ⟨d', hd1⟩ : ∃ d', d = d' + 1 := ⟨d - 1, by omega⟩
  have g1 : decide ((d : Int) ≤ 0) = false := by simp; omega
  have g2 : decide (d ≤ 0) = false := by simp; omega
  have hdw : IntKind.i64.wrap ((d : Int) - 1) = (d' : Int) := by rw [IntKind.wrap_i64]; omega
  have HRECD := Lib.hid (HREC.out d' hd1)
  have HD1 := Lib.hid hd1
  clear hd1 HREC
  rcases (show r0 = 0 ∨ r0 = 1 ∨ r0 = 2 ∨ r0 = 3 ∨ r0 = 4 ∨ r0 = 5 ∨ r0 = 6 ∨ (r0 = 7 ∨ r0 = 8) by omega) with rfl | rfl | rfl | rfl | rfl | rfl | rfl | hr78
  ·
   go_wp2_with (refine wpList_store_blk rfl 26 _ _ rfl w.heap.size _ #[.int .i64 1, .bool false, .int .i64 0, .string ⟨#[]⟩, .slice none 0 0, .slice none 0 0] 26 rfl rfl HS.out.blk rfl jv_size (jv_ones _ _ _ _ _ _ _ _ _ _) ?_)
   refine bodyPost_ret (results_cell_row Tryz.results25 _ _ w.heap.size _ _ _ _ rfl HS.out.blk.setRow Tryz.underlying26 rfl (by kernel_rfl)) rfl ?_
   exact vr_leaf HS.out (leaf_null _)
  ·
   have cn := Lib.hid (next_walk zs g k1 2 _ HS.out.tape (by omega))
   go_wp2_with fail
   refine cn.out.mono ?_
   rintro _ W2 ⟨rfl, ht2, hg2, hs2⟩
   have HS2 := Lib.hid (HS.out.call ht2 hg2)
   clear ht2 hg2 hs2 HS cn
   have cb := Lib.hid (fun b => b_walk W2 b)
   generalize nextR zs k1 2 = r2 at *
   go_wp2_with fail
   refine (cb.out _).mono ?_
   rintro _ W3 ⟨rfl, hb3⟩
   have HS3 := Lib.hid (HS2.out.below hb3)
   clear hb3 HS2 cb
   generalize (r2 == 1) = bb at *
   go_wp2_with (refine wpList_store_blk rfl 26 _ _ rfl w.heap.size _ #[.int .i64 2, .bool bb, .int .i64 0, .string ⟨#[]⟩, .slice none 0 0, .slice none 0 0] 26 rfl rfl HS3.out.blk rfl jv_size (jv_ones _ _ _ _ _ _ _ _ _ _) ?_)
   refine bodyPost_ret (results_cell_row Tryz.results25 _ _ w.heap.size _ _ _ _ rfl HS3.out.blk.setRow Tryz.underlying26 rfl (by kernel_rfl)) rfl ?_
   exact vr_leaf HS3.out (leaf_bool _ bb)
  ·
   have HB1 := Lib.hid (HS.out.made 3 cJi)
   have HS1 := Lib.hid (HS.out.alloc (.cells cJi 3))
   obtain ⟨r, er, hr8⟩ := next8 zs k1
   obtain ⟨n, hn⟩ : ∃ n, isJ.getD r 0 = n := ⟨_, rfl⟩
   have hall := isJ_all r hr8
   rw [hn] at hall
   obtain ⟨hc, hn1, hn2⟩ := hall
   have HLF := Lib.hid (leaf_int (d) n ⟨hn1, hn2⟩)
   have HC := Lib.hid hc
   clear HS hn hc hn1 hn2
   go_wp2_with fail
   generalize W1.alloc (.cells cJi 3) = W2 at HB1 HS1 ⊢
   generalize W1.heap.size = b1 at HB1 ⊢
   have cn := Lib.hid (next_walk zs g k1 8 _ HS1.out.tape (by omega))
   rw [er] at cn
   clear er
   refine cn.out.mono ?_
   rintro _ W3 ⟨rfl, ht3, hg3, hs3⟩
   have HS3 := Lib.hid (HS1.out.call ht3 hg3)
   have hcell : W3.cell? ⟨b1, r, none⟩ = some (.int .i64 n) := ((HB1.out.call hg3).blk.cell r).trans HC.out
   have cb := Lib.hid (i_walk W3 n)
   clear ht3 hg3 hs3 HS1 HB1 cn HC
   go_wp2_with fail
   refine cb.out.mono ?_
   rintro _ W4 ⟨rfl, hb4⟩
   have HS4 := Lib.hid (HS3.out.below hb4)
   clear hb4 HS3 cb hcell
   go_wp2_with (refine wpList_store_blk rfl 26 _ _ rfl w.heap.size _ #[.int .i64 3, .bool false, .int .i64 n, .string ⟨#[]⟩, .slice none 0 0, .slice none 0 0] 26 rfl rfl HS4.out.blk rfl jv_size (jv_ones _ _ _ _ _ _ _ _ _ _) ?_)
   refine bodyPost_ret (results_cell_row Tryz.results25 _ _ w.heap.size _ _ _ _ rfl HS4.out.blk.setRow Tryz.underlying26 rfl (by kernel_rfl)) rfl ?_
   exact vr_leaf HS4.out HLF.out
  ·
   have HB1 := Lib.hid (HS.out.made 3 cJi)
   have HS1 := Lib.hid (HS.out.alloc (.cells cJi 3))
   obtain ⟨r, er, hr8⟩ := next8 zs k1
   obtain ⟨n, hn⟩ : ∃ n, isJ.getD r 0 = n := ⟨_, rfl⟩
   have hall := isJ_all r hr8
   rw [hn] at hall
   obtain ⟨hc, hn1, hn2⟩ := hall
   have HLF := Lib.hid (leaf_int (d) n ⟨hn1, hn2⟩)
   have HC := Lib.hid hc
   clear HS hn hc hn1 hn2
   go_wp2_with fail
   generalize W1.alloc (.cells cJi 3) = W2 at HB1 HS1 ⊢
   generalize W1.heap.size = b1 at HB1 ⊢
   have cn := Lib.hid (next_walk zs g k1 8 _ HS1.out.tape (by omega))
   rw [er] at cn
   clear er
   refine cn.out.mono ?_
   rintro _ W3 ⟨rfl, ht3, hg3, hs3⟩
   have HS3 := Lib.hid (HS1.out.call ht3 hg3)
   have hcell : W3.cell? ⟨b1, r, none⟩ = some (.int .i64 n) := ((HB1.out.call hg3).blk.cell r).trans HC.out
   have cb := Lib.hid (i_walk W3 n)
   clear ht3 hg3 hs3 HS1 HB1 cn HC
   go_wp2_with fail
   refine cb.out.mono ?_
   rintro _ W4 ⟨rfl, hb4⟩
   have HS4 := Lib.hid (HS3.out.below hb4)
   clear hb4 HS3 cb hcell
   go_wp2_with (refine wpList_store_blk rfl 26 _ _ rfl w.heap.size _ #[.int .i64 3, .bool false, .int .i64 n, .string ⟨#[]⟩, .slice none 0 0, .slice none 0 0] 26 rfl rfl HS4.out.blk rfl jv_size (jv_ones _ _ _ _ _ _ _ _ _ _) ?_)
   refine bodyPost_ret (results_cell_row Tryz.results25 _ _ w.heap.size _ _ _ _ rfl HS4.out.blk.setRow Tryz.underlying26 rfl (by kernel_rfl)) rfl ?_
   exact vr_leaf HS4.out HLF.out
  ·
   have HB1 := Lib.hid (HS.out.made 9 cJs)
   have HS1 := Lib.hid (HS.out.alloc (.cells cJs 9))
   obtain ⟨xl, hx, hxv, hxl⟩ := ssJ_ok zs k1
   have HLF := Lib.hid (leaf_text (d) xl hxv hxl)
   have HX := Lib.hid hx
   clear HS hx hxv hxl
   go_wp2_with fail
   generalize W1.alloc (.cells cJs 9) = W2 at HB1 HS1 ⊢
   generalize W1.heap.size = b1 at HB1 ⊢
   have cn := pick_walk zs g k1 _ 11 (b1 + 1) ssJ (by decide) (by decide) (by decide) W2 HS1.out.tape (reads_blk (us := ssJ.map Value.string) HB1.out.blk) HB1.out.lt HB1.out.off
   rw [HX.out] at cn
   refine cn.mono ?_
   rintro _ W3 ⟨rfl, ht3, hg3, hs3⟩
   have HS3 := Lib.hid (HS1.out.call ht3 hg3)
   clear ht3 hg3 hs3 HS1 HB1 cn HX
   generalize hz : (⟨xl.toArray⟩ : ByteArray) = z
   have HZ := Lib.hid hz
   clear hz
   have cb := Lib.hid (s_walk W3 z)
   go_wp2_with fail
   refine cb.out.mono ?_
   rintro _ W4 ⟨rfl, hb4⟩
   have HS4 := Lib.hid (HS3.out.below hb4)
   clear hb4 HS3 cb
   go_wp2_with (refine wpList_store_blk rfl 26 _ _ rfl w.heap.size _ #[.int .i64 4, .bool false, .int .i64 0, .string z, .slice none 0 0, .slice none 0 0] 26 rfl rfl HS4.out.blk rfl jv_size (jv_ones _ _ _ _ _ _ _ _ _ _) ?_)
   refine bodyPost_ret (results_cell_row Tryz.results25 _ _ w.heap.size _ _ _ _ rfl HS4.out.blk.setRow Tryz.underlying26 rfl (by kernel_rfl)) rfl ?_
   rw [← HZ.out]
   exact vr_leaf HS4.out HLF.out
  ·
   have HB1 := Lib.hid (HS.out.made 9 cJs)
   have HS1 := Lib.hid (HS.out.alloc (.cells cJs 9))
   obtain ⟨xl, hx, hxv, hxl⟩ := ssJ_ok zs k1
   have HLF := Lib.hid (leaf_text (d) xl hxv hxl)
   have HX := Lib.hid hx
   clear HS hx hxv hxl
   go_wp2_with fail
   generalize W1.alloc (.cells cJs 9) = W2 at HB1 HS1 ⊢
   generalize W1.heap.size = b1 at HB1 ⊢
   have cn := pick_walk zs g k1 _ 11 (b1 + 1) ssJ (by decide) (by decide) (by decide) W2 HS1.out.tape (reads_blk (us := ssJ.map Value.string) HB1.out.blk) HB1.out.lt HB1.out.off
   rw [HX.out] at cn
   refine cn.mono ?_
   rintro _ W3 ⟨rfl, ht3, hg3, hs3⟩
   have HS3 := Lib.hid (HS1.out.call ht3 hg3)
   clear ht3 hg3 hs3 HS1 HB1 cn HX
   generalize hz : (⟨xl.toArray⟩ : ByteArray) = z
   have HZ := Lib.hid hz
   clear hz
   have cb := Lib.hid (s_walk W3 z)
   go_wp2_with fail
   refine cb.out.mono ?_
   rintro _ W4 ⟨rfl, hb4⟩
   have HS4 := Lib.hid (HS3.out.below hb4)
   clear hb4 HS3 cb
   go_wp2_with (refine wpList_store_blk rfl 26 _ _ rfl w.heap.size _ #[.int .i64 4, .bool false, .int .i64 0, .string z, .slice none 0 0, .slice none 0 0] 26 rfl rfl HS4.out.blk rfl jv_size (jv_ones _ _ _ _ _ _ _ _ _ _) ?_)
   refine bodyPost_ret (results_cell_row Tryz.results25 _ _ w.heap.size _ _ _ _ rfl HS4.out.blk.setRow Tryz.underlying26 rfl (by kernel_rfl)) rfl ?_
   rw [← HZ.out]
   exact vr_leaf HS4.out HLF.out
  ·
   have hl0 := HS.out.alloc (.cells #[.int .i64 5, .bool false, .int .i64 0, .string ⟨#[]⟩, .slice none 0 0, .slice none 0 0] 26)
   have hb6 := Blk.new W1 26 #[.int .i64 5, .bool false, .int .i64 0, .string ⟨#[]⟩, .slice none 0 0, .slice none 0 0]
   rw [HZ1.out] at hb6
   have HL0 := Lib.hid (show LoopV zs g w k1 #[.int .i64 5, .bool false, .int .i64 0, .string ⟨#[]⟩, .slice none 0 0, .slice none 0 0] (.slice none 0 0) [] (.slice none 0 0) [] _ from ⟨hl0, hb6, Kids.nil _ _⟩)
   have hz1 := HZ1.out
   clear hl0 hb6 HS HZ1
   go_wp2_with fail
   generalize W1.alloc (.cells #[.int .i64 5, .bool false, .int .i64 0, .string ⟨#[]⟩, .slice none 0 0, .slice none 0 0] 26) = W2 at HL0 ⊢
   have cn := Lib.hid (next_walk zs g k1 4 _ HL0.out.st.tape (by omega))
   obtain ⟨i0, ei, hi4⟩ := next4 zs k1
   rw [ei] at cn
   refine cn.out.mono ?_
   rintro _ W3 ⟨rfl, ht3, hg3, hs3⟩
   have HL := Lib.hid (HL0.out.call ht3 hg3)
   clear ht3 hg3 hs3 HL0 cn ei hz1
   generalize nextA zs k1 4 = k2 at *
   go_wp2_with fail
   go_loopw [7] (fun wi wr => ∃ (i k : Nat) (names : List (List UInt8)) (acc : List Jv) (nv av : Value), wi = .int .i64 (i : Int) ∧ Hid (LoopV zs g w k #[.int .i64 5, .bool false, .int .i64 0, .string ⟨#[]⟩, nv, av] nv names av acc wr) ∧ Hid (PartV d' false i names acc)) (fun wi wr => match wi with | .int _ n => n.toNat | _ => 0)
   case atStart => exact ⟨i0, k2, [], [], _, _, rfl, HL, PartV.nil _ _ _ (by omega)⟩
   case round =>
    clear HL hi4
    obtain ⟨i, k, names, acc, nv, av, rfl, HL, HP⟩ := hrel
    obtain ⟨NA, nc, A, c, rfl, rfl, -⟩ := HL.out.kids.value 5 false 0 []
    obtain ⟨l0, l1, l2, l3, l4, l5⟩ := six_cells HL.out.b6
    by_cases hi0 : i = 0
    ·
     subst hi0
     have HF := Lib.hid HP.out.done
     rw [← HD1.out] at HF
     go_wp2_with (first | refine wpList_load_at rfl 26 _ rfl ⟨w.heap.size + 1, 0, none⟩ rfl [.int .i64 5, .bool false, .int .i64 0, .string ⟨#[]⟩, .slice NA names.length nc, .slice A acc.length c] _ (blk_cells HL.out.b6) Tryz.underlying26 rfl jv_size ?_ | refine wpList_store_blk rfl 26 _ _ rfl w.heap.size _ #[.int .i64 5, .bool false, .int .i64 0, .string ⟨#[]⟩, .slice NA names.length nc, .slice A acc.length c] 26 rfl rfl HL.out.st.blk rfl jv_size (jv_ones _ _ _ _ _ _ _ _ _ _) ?_)
     refine bodyPost_ret (results_cell_row Tryz.results25 _ _ w.heap.size _ _ _ _ rfl HL.out.st.blk.setRow Tryz.underlying26 rfl (by kernel_rfl)) rfl ?_
     exact vr_many HL.out rfl rfl HF.out _
    ·
     obtain ⟨j, hj⟩ : ∃ j, i = j + 1 := ⟨i - 1, by omega⟩
     have gi : decide (0 < (i : Int)) = true := by simp; omega
     have gi' : decide (0 < i) = true := by simp; omega
     have hi3 : i ≤ 3 := by have := HP.out.few; omega
     have hjw : IntKind.i64.wrap ((i : Int) - 1) = (j : Int) := by rw [IntKind.wrap_i64]; omega
     have hac : acc.length ≤ 2 := by have := HP.out.few; omega
     have hnl : names.length ≤ 2 := by have := HP.out.len; rw [if_neg (by decide)] at this; omega
     have HJ := Lib.hid hj
     clear hj hi0
     obtain ⟨is0, his, hs0, hs1, hs2⟩ := infoS4 info_string
     obtain ⟨i0, hi, hz0, hz1, hz2⟩ := infoS4 info_jv
     go_wp2_with fail
     replace HL := Lib.hid HL.out.drew
     have hC : HoldF 9 (fun W => W.cell? ⟨w.heap.size + 1, 5, none⟩ = some (.slice A acc.length c)) (Array.replicate 10 false) wr.drew := fun _ => HL.out.b6.cell 5
     refine region_fin (F := fun a a' W => ∃ (v72 v73 : Value) (A3 : Option Addr) (c3 k4 : Nat) (x : Jv), a' = (((((((((a.put (some 67) (.pointer (some ⟨w.heap.size + 1, 5, none⟩))).put (some 68) (.slice A acc.length c)).put (some 69) (.pointer (some ⟨g, 0, none⟩))).put (some 70) (.int .i64 (d : Int))).put (some 71) (.int .i64 (d' : Int))).put (some 72) v72).put (some 73) v73).put (some 74) (.slice A3 (acc.length + 1) c3)).put (some 75) (.pointer (some ⟨w.heap.size + 1, 5, none⟩))) ∧ Hid (FitV d' x) ∧ Hid (LoopV zs g w k4 #[.int .i64 5, .bool false, .int .i64 0, .string ⟨#[]⟩, .slice NA names.length nc, .slice A3 (acc.length + 1) c3] (.slice NA names.length nc) names (.slice A3 (acc.length + 1) c3) (acc ++ [x]) W)) ?_ ?_
     ·
      clear l0 l1 l2 l3 l4 l5 gi gi' hjw g1 g2
      refine wp_region_L (S := HoldF 9 (fun W => W.cell? ⟨w.heap.size + 1, 5, none⟩ = some (.slice A acc.length c))) (by kernel_rfl) ?_
      refine tkl 0 [9] rfl ?_
      try simp only [nrm, Act.put]
      refine tkl 2 [9] rfl ?_
      try simp only [nrm, Act.put]
      refine tkl 3 [9] rfl ?_
      try simp only [nrm, Act.put]
      refine tkl 4 [9] rfl ?_
      try simp only [nrm, Act.put]
      refine tkl 1 [9] rfl ?_
      try simp only [nrm, Act.put]
      generalize wr.drew = U0 at HL ⊢
      clear hC
      refine rdl 5 rfl fun K hK => ?_
      go_simp
      have hown : (∀ q, Value.ownBlock (.slice A acc.length c) = some q → q < U0.heap.size) ∧ (∀ q, Value.ownBlock (.slice NA names.length nc) = some q → q < U0.heap.size) ∧ w.heap.size + 2 ≤ U0.heap.size := by
       obtain ⟨_, h0, h1, _⟩ := HL.out.kids
       exact ⟨fun q e => (h1.lt q e).2, fun q e => (h0.lt q e).2, HL.out.b6.lt⟩
      have HOWN := Lib.hid hown
      refine (HRECD.out zs g k U0 HL.out.st.tape).mono ?_
      rintro _ U1 ⟨x, cs, k4, rfl, hv, ht, hg, hf⟩
      obtain ⟨kx, bx, nx, sx, NX, nnx, ncx, AX, mx, cx, rfl⟩ := hv.form
      have hL := HL.out.call ht hg
      have HV := Lib.hid hv
      have HF := Lib.hid hf
      go_simp
      refine hK.out _ _ (fun _ => hL.b6.cell 5) (fun hHeld => ?_)
      clear HL
      have HL := Lib.hid hL
      clear hK K hL hHeld hv ht hg hf hown
      try simp only [nrm, Act.put]
      refine rdl 6 rfl fun K hK => ?_
      go_simp
      have hb6 := Blk.new U1 26 #[.int .i64 kx, .bool bx, .int .i64 nx, .string sx, .slice NX nnx ncx, .slice AX mx cx]
      have hL := HL.out.alloc (.cells #[.int .i64 kx, .bool bx, .int .i64 nx, .string sx, .slice NX nnx ncx, .slice AX mx cx] 26)
      have hv := HV.out.below ((Below.refl U1.heap.size U1).alloc (Nat.le_refl _) (.cells #[.int .i64 kx, .bool bx, .int .i64 nx, .string sx, .slice NX nnx ncx, .slice AX mx cx] 26))
      clear HL HV
      generalize U1.alloc (.cells #[.int .i64 kx, .bool bx, .int .i64 nx, .string sx, .slice NX nnx ncx, .slice AX mx cx] 26) = U2 at hL hb6 hv ⊢
      generalize U1.heap.size = bx6 at hb6 ⊢
      refine hK.out _ _ (fun _ => hL.b6.cell 5) (fun hHeld => ?_)
      have HB6 := Lib.hid hb6
      have HL := Lib.hid hL
      have HV := Lib.hid hv
      clear hK K hL hHeld hb6 hv
      try simp only [nrm, Act.put]
      refine rdl 7 rfl fun K hK => ?_
      obtain ⟨vs0, ho0, ho1, hj0⟩ := HL.out.kids
      refine step_append_any U2 rfl (.tmp 68) (.tmp 73) 24 rfl (w.heap.size + 2) 26 i0 (.agg (cells6 0 false 0 [] none 0 0 none 0 0).toArray) 6 88 Tryz.underlying24 hi hz0 hz1 hz2 rfl (by decide) (.slice A acc.length c) acc.length _ rfl ho1 U2.heap.size (some ⟨bx6, 0, none⟩) 1 1 [.int .i64 kx, .bool bx, .int .i64 nx, .string sx, .slice NX nnx ncx, .slice AX mx cx] rfl (blk_reads HB6.out) (by simp [Value.oneCell']) (by unfold maxLen; omega) (by omega) (by have := HL.out.b6.lt; omega) ?_
      intro av3 U3 ho hg hnn
      have hL := HL.out.kid ho0 ho1 hj0 HV.out HOWN.out.2.2 HOWN.out.1 HOWN.out.2.1 ho hg hnn
      obtain ⟨A3, c3, rfl, _, _⟩ := own_reads ho (Nat.le_refl _)
      refine hK.out _ _ (fun _ => hL.b6.cell 5) (fun hHeld => ?_)
      clear HL HB6 HV HOWN
      have HL := Lib.hid hL
      clear hK K hL hHeld ho0 ho1 hj0 ho hg hnn
      try simp only [nrm, Act.put]
      refine rdl 8 rfl fun K hK => ?_
      go_simp
      refine hK.out _ _ (fun _ => HL.out.b6.cell 5) (fun hHeld => ?_)
      clear hK K hHeld
      try simp only [nrm, Act.put]
      refine rdl 9 rfl fun K hK => ?_
      have c5 := HL.out.b6.cell 5
      have f5 := HL.out.b6.frozen 5
      simp only [List.getElem?_toArray, List.getElem?_cons_zero, List.getElem?_cons_succ] at c5
      go_simp
      have hL := HL.out.set_ 5 (.slice A3 (acc.length + 1) c3)
      clear HL c5 f5
      generalize U3.setCell ⟨w.heap.size + 1, 5, none⟩ (.slice A3 (acc.length + 1) c3) = U4 at hL ⊢
      refine hK.out _ _ (fun h => nomatch (show true = false from h)) (fun hHeld => ?_)
      have HL := Lib.hid hL
      clear hK K hHeld hL
      try simp only [nrm, Act.put]
      refine wpAnyL_done (by kernel_rfl) ?_ _
      exact ⟨rfl, _, _, A3, c3, k4, x, rfl, HF, HL⟩
     ·
      rintro a' W8 ⟨v72, v73, A3, c3, k4, x, rfl, HF, HL⟩
      try simp only [nrm, Act.put]
      go_wp2_with fail
      have hp := HP.out
      rw [HJ.out] at hp
      have hp2 := hp.list HF.out
      refine ⟨⟨j, k4, names, acc ++ [x], _, _, rfl, HL, hp2⟩, ?_⟩
      have := HJ.out
      simp; omega
  ·
   have e0 : ((r0 : Int) == 0) = false := by simp; omega
   have e1 : ((r0 : Int) == 1) = false := by simp; omega
   have e2 : ((r0 : Int) == 2) = false := by simp; omega
   have e3 : ((r0 : Int) == 3) = false := by simp; omega
   have e4 : ((r0 : Int) == 4) = false := by simp; omega
   have e5 : ((r0 : Int) == 5) = false := by simp; omega
   have e6 : decide (6 < (r0 : Int)) = true := by simp; omega
   have e6' : decide (6 < r0) = true := by simp; omega
   clear hr78 hp
   have hl0 := HS.out.alloc (.cells #[.int .i64 6, .bool false, .int .i64 0, .string ⟨#[]⟩, .slice none 0 0, .slice none 0 0] 26)
   have hb6 := Blk.new W1 26 #[.int .i64 6, .bool false, .int .i64 0, .string ⟨#[]⟩, .slice none 0 0, .slice none 0 0]
   rw [HZ1.out] at hb6
   have HL0 := Lib.hid (show LoopV zs g w k1 #[.int .i64 6, .bool false, .int .i64 0, .string ⟨#[]⟩, .slice none 0 0, .slice none 0 0] (.slice none 0 0) [] (.slice none 0 0) [] _ from ⟨hl0, hb6, Kids.nil _ _⟩)
   have hz1 := HZ1.out
   clear hl0 hb6 HS HZ1
   go_wp2_with fail
   generalize W1.alloc (.cells #[.int .i64 6, .bool false, .int .i64 0, .string ⟨#[]⟩, .slice none 0 0, .slice none 0 0] 26) = W2 at HL0 ⊢
   have cn := Lib.hid (next_walk zs g k1 4 _ HL0.out.st.tape (by omega))
   obtain ⟨i0, ei, hi4⟩ := next4 zs k1
   rw [ei] at cn
   refine cn.out.mono ?_
   rintro _ W3 ⟨rfl, ht3, hg3, hs3⟩
   have HL := Lib.hid (HL0.out.call ht3 hg3)
   clear ht3 hg3 hs3 HL0 cn ei hz1
   generalize nextA zs k1 4 = k2 at *
   go_wp2_with fail
   go_loopw [7] (fun wi wr => ∃ (i k : Nat) (names : List (List UInt8)) (acc : List Jv) (nv av : Value), wi = .int .i64 (i : Int) ∧ Hid (LoopV zs g w k #[.int .i64 6, .bool false, .int .i64 0, .string ⟨#[]⟩, nv, av] nv names av acc wr) ∧ Hid (PartV d' true i names acc)) (fun wi wr => match wi with | .int _ n => n.toNat | _ => 0)
   case atStart => exact ⟨i0, k2, [], [], _, _, rfl, HL, PartV.nil _ _ _ (by omega)⟩
   case round =>
    clear HL hi4
    obtain ⟨i, k, names, acc, nv, av, rfl, HL, HP⟩ := hrel
    obtain ⟨NA, nc, A, c, rfl, rfl, -⟩ := HL.out.kids.value 6 false 0 []
    obtain ⟨l0, l1, l2, l3, l4, l5⟩ := six_cells HL.out.b6
    by_cases hi0 : i = 0
    ·
     subst hi0
     have HF := Lib.hid HP.out.done
     rw [← HD1.out] at HF
     go_wp2_with (first | refine wpList_load_at rfl 26 _ rfl ⟨w.heap.size + 1, 0, none⟩ rfl [.int .i64 6, .bool false, .int .i64 0, .string ⟨#[]⟩, .slice NA names.length nc, .slice A acc.length c] _ (blk_cells HL.out.b6) Tryz.underlying26 rfl jv_size ?_ | refine wpList_store_blk rfl 26 _ _ rfl w.heap.size _ #[.int .i64 6, .bool false, .int .i64 0, .string ⟨#[]⟩, .slice NA names.length nc, .slice A acc.length c] 26 rfl rfl HL.out.st.blk rfl jv_size (jv_ones _ _ _ _ _ _ _ _ _ _) ?_)
     refine bodyPost_ret (results_cell_row Tryz.results25 _ _ w.heap.size _ _ _ _ rfl HL.out.st.blk.setRow Tryz.underlying26 rfl (by kernel_rfl)) rfl ?_
     exact vr_many HL.out rfl rfl HF.out _
    ·
     obtain ⟨j, hj⟩ : ∃ j, i = j + 1 := ⟨i - 1, by omega⟩
     have gi : decide (0 < (i : Int)) = true := by simp; omega
     have gi' : decide (0 < i) = true := by simp; omega
     have hi3 : i ≤ 3 := by have := HP.out.few; omega
     have hjw : IntKind.i64.wrap ((i : Int) - 1) = (j : Int) := by rw [IntKind.wrap_i64]; omega
     have hac : acc.length ≤ 2 := by have := HP.out.few; omega
     have hnl : names.length ≤ 2 := by have := HP.out.len; simp at this; omega
     have HJ := Lib.hid hj
     clear hj hi0
     obtain ⟨is0, his, hs0, hs1, hs2⟩ := infoS4 info_string
     obtain ⟨i0, hi, hz0, hz1, hz2⟩ := infoS4 info_jv
     obtain ⟨bt, hbt⟩ : ∃ bt, UInt8.ofNat (48 + i) = bt := ⟨_, rfl⟩
     obtain ⟨bv, hbv⟩ : ∃ bv : Nat, 48 + i = bv := ⟨_, rfl⟩
     have hw1 : IntKind.i64.wrap (48 + (i : Int)) = (bv : Int) := by rw [IntKind.wrap_i64]; omega
     have hw2 : IntKind.u8.wrap (bv : Int) = (bv : Int) := by rw [wrap_u8]; omega
     obtain ⟨y, hy, hys⟩ : ∃ y : ByteArray, (⟨#[bt]⟩ : ByteArray) = y ∧ y.size = 1 := ⟨_, rfl, rfl⟩
     have HY := Lib.hid hy
     have hcv := byte_str bt bv (by rw [← hbt, ← hbv]; simp; omega)
     rw [hy] at hcv
     have HCV := Lib.hid hcv
     have HBT := Lib.hid hbt
     clear hbt hbv hy hcv
     go_wp2_with fail
     have HL := Lib.hid HL.out.drew
     have hC : HoldF 14 (fun W => W.cell? ⟨w.heap.size + 1, 4, none⟩ = some (.slice NA names.length nc)) (Array.replicate 15 false) wr.drew := fun _ => l4
     refine region_fin (F := fun a a' W => ∃ (v56 v57 v61 v62 v63 v64 : Value) (NA3 : Option Addr) (nc3 k3 : Nat) (xl : List UInt8), a' = ((((((((((((((a.put (some 53) (.pointer (some ⟨w.heap.size + 1, 4, none⟩))).put (some 54) (.slice NA names.length nc)).put (some 55) (.pointer (some ⟨g, 0, none⟩))).put (some 56) v56).put (some 57) v57).put (some 58) (.int .i64 (i : Int))).put (some 59) (.int .i64 (bv : Int))).put (some 60) (.int .u8 (bv : Int))).put (some 61) v61).put (some 62) v62).put (some 63) v63).put (some 64) v64).put (some 65) (.slice NA3 (names.length + 1) nc3)).put (some 66) (.pointer (some ⟨w.heap.size + 1, 4, none⟩))) ∧ Hid (xl ∈ qs4) ∧ Hid (LoopV zs g w k3 #[.int .i64 6, .bool false, .int .i64 0, .string ⟨#[]⟩, .slice NA3 (names.length + 1) nc3, .slice A acc.length c] (.slice NA3 (names.length + 1) nc3) (names ++ [xl ++ [bt]]) (.slice A acc.length c) acc W)) ?_ ?_
     ·
      clear l0 l1 l2 l3 l4 l5 gi gi' hjw hdw g1 g2
      refine wp_region_L (S := HoldF 14 (fun W => W.cell? ⟨w.heap.size + 1, 4, none⟩ = some (.slice NA names.length nc))) (by kernel_rfl) ?_
      refine tkl 0 [14] rfl ?_
      try simp only [nrm, Act.put]
      refine tkl 2 [14] rfl ?_
      try simp only [nrm, Act.put]
      refine tkl 5 [14] rfl ?_
      try simp only [nrm, Act.put]
      refine tkl 6 [14] rfl ?_
      try simp only [nrm, Act.put]
      refine tkl 7 [14] rfl ?_
      try simp only [nrm, Act.put]
      refine tkl 1 [14] rfl ?_
      try simp only [nrm, Act.put]
      generalize wr.drew = W0 at HL ⊢
      clear hC
      refine wpAnyL_ready (rs := [3, 8]) (by kernel_rfl) (by simp) ?_
      refine AllReadyL.cons rfl (fun K hK => ?_) ( AllReadyL.cons rfl (fun K hK => ?_) AllReadyL.nil)
      ·
       go_simp
       have hb3 := HL.out.made 9 cJ4
       have hL := HL.out.alloc (.cells cJ4 9)
       clear HL
       generalize W0.alloc (.cells cJ4 9) = W1 at hL hb3 ⊢
       generalize W0.heap.size = b3 at hb3 ⊢
       refine hK.out _ _ (fun _ => hL.b6.cell 4) (fun hHeld => ?_)
       have Hb3 := Lib.hid hb3
       have HL := Lib.hid hL
       clear hK K hL hHeld hb3
       try simp only [nrm, Act.put]
       refine wpAnyL_ready (rs := [4, 8]) (by kernel_rfl) (by simp) ?_
       refine AllReadyL.cons rfl (fun K hK => ?_) ( AllReadyL.cons rfl (fun K hK => ?_) AllReadyL.nil)
       ·
        go_simp
        obtain ⟨xl, ex, hxq⟩ := ss4_ok zs k
        refine (pick_walk zs g k _ 4 (b3 + 1) ss4 (by decide) (by decide) (by decide) W1 HL.out.st.tape (reads_blk (us := ss4.map Value.string) Hb3.out.blk) Hb3.out.lt Hb3.out.off).mono ?_
        rw [ex]
        rintro _ W2 ⟨rfl, ht, hg, -⟩
        generalize nextA zs k ss4.length = k at ht
        clear ex
        generalize hz : (⟨xl.toArray⟩ : ByteArray) = z
        have HZ := Lib.hid hz
        have HXQ := Lib.hid hxq
        have hzs : z.size ≤ 2 := by rw [← hz, size_mks]; exact qs4_le xl hxq
        clear hz hxq
        go_simp
        have hL := HL.out.call ht hg
        refine hK.out _ _ (fun _ => hL.b6.cell 4) (fun hHeld => ?_)
        clear HL Hb3
        have HL := Lib.hid hL
        clear hK K hL ht hg hHeld
        try simp only [nrm, Act.put]
        refine rdl 8 rfl fun K hK => ?_
        go_simp
        have hb8 := HL.out.made 5 #[.int .u8 (bv : Int)]
        have hL := HL.out.alloc (.cells #[.int .u8 (bv : Int)] 5)
        clear HL
        generalize W2.alloc (.cells #[.int .u8 (bv : Int)] 5) = W3 at hL hb8 ⊢
        generalize W2.heap.size = b8 at hb8 ⊢
        refine hK.out _ _ (fun _ => hL.b6.cell 4) (fun hHeld => ?_)
        have Hb8 := Lib.hid hb8
        have HL := Lib.hid hL
        clear hK K hL hHeld hb8
        try simp only [nrm, Act.put]
        refine rdl 9 rfl fun K hK => ?_
        have hc9 := HCV.out W3 b8 Hb8.out.blk
        go_simp
        refine hK.out _ _ (fun _ => HL.out.b6.cell 4) (fun hHeld => ?_)
        clear hK K hHeld hc9 Hb8
        try simp only [nrm, Act.put]
        have hadd : ¬ 9223372036854775807 < z.size + 1 := by omega
        refine wpAnyL_take (i := 10) (v := ?_) [14] rfl (by kernel_rfl) (by kernel_rfl) (by kernel_rfl) (by intro _ _ _ h; exact nomatch h.1) (by kernel_rfl) (HoldF.flag rfl) (Or.inl ⟨?_, ?_⟩) (fun _ => HL.out.b6.cell 4) ?_; rotate_left; rfl; focus (intro w hSw; replace hSw := hSw.held (by simp); (try dsimp only at hSw); go_simp; all_goals (with_reducible rfl))
        try simp only [nrm, Act.put]
        obtain ⟨n, hn⟩ : ∃ n, z ++ y = n := ⟨_, rfl⟩
        have HN : Hid (Value.string n = strV (xl ++ [bt])) := by show _ = _; rw [← hn, ← HZ.out, ← HY.out, cat_mk]; rfl
        rw [hn]
        clear hn hadd HZ
        refine rdl 11 rfl fun K hK => ?_
        go_simp
        have hb11 := Blk.new W3 9 #[.string n]
        have hL := HL.out.alloc (.cells #[.string n] 9)
        clear HL
        generalize W3.alloc (.cells #[.string n] 9) = W4 at hL hb11 ⊢
        generalize W3.heap.size = b11 at hb11 ⊢
        refine hK.out _ _ (fun _ => hL.b6.cell 4) (fun hHeld => ?_)
        have HB11 := Lib.hid hb11
        have HL := Lib.hid hL
        clear hK K hL hHeld hb11
        try simp only [nrm, Act.put]
        refine rdl 12 rfl fun K hK => ?_
        obtain ⟨vs0, ho0, ho1, hj0⟩ := HL.out.kids
        refine step_append_any W4 rfl (.tmp 54) (.tmp 64) 23 rfl (w.heap.size + 2) 9 is0 (.string ⟨#[]⟩) 1 16 Tryz.underlying23 his hs0 hs1 hs2 rfl (by decide) (.slice NA names.length nc) names.length (strVs names) rfl ho0 W4.heap.size (some ⟨b11, 0, none⟩) 1 1 [.string n] rfl (blk_reads HB11.out) (by simp [Value.oneCell']) (by unfold maxLen; omega) (by omega) (by have := HL.out.b6.lt; omega) ?_
        intro nv3 W5 ho hg hnn
        rw [HN.out] at ho
        have hL := HL.out.name ho hg hnn
        obtain ⟨NA3, nc3, rfl, _, _⟩ := own_reads ho (Nat.le_refl _)
        refine hK.out _ _ (fun _ => hL.b6.cell 4) (fun hHeld => ?_)
        clear HL HB11 HN
        have HL := Lib.hid hL
        clear hK K hL hHeld ho0 ho1 hj0 ho hg hnn
        try simp only [nrm, Act.put]
        refine rdl 13 rfl fun K hK => ?_
        go_simp
        refine hK.out _ _ (fun _ => HL.out.b6.cell 4) (fun hHeld => ?_)
        clear hK K hHeld
        try simp only [nrm, Act.put]
        refine rdl 14 rfl fun K hK => ?_
        have c4 := HL.out.b6.cell 4
        have f4 := HL.out.b6.frozen 4
        simp only [List.getElem?_toArray, List.getElem?_cons_zero, List.getElem?_cons_succ] at c4
        go_simp
        have hL := HL.out.set_ 4 (.slice NA3 (names.length + 1) nc3)
        clear HL c4 f4
        generalize W5.setCell ⟨w.heap.size + 1, 4, none⟩ (.slice NA3 (names.length + 1) nc3) = W6 at hL ⊢
        refine hK.out _ _ (fun h => nomatch (show true = false from h)) (fun hHeld => ?_)
        have HL := Lib.hid hL
        clear hK K hHeld hL
        try simp only [nrm, Act.put]
        refine wpAnyL_done (by kernel_rfl) ?_ _
        exact ⟨rfl, _, _, _, _, _, _, NA3, nc3, k, xl, rfl, HXQ, HL⟩
       ·
        go_simp
        have hb8 := HL.out.made 5 #[.int .u8 (bv : Int)]
        have hL := HL.out.alloc (.cells #[.int .u8 (bv : Int)] 5)
        have hb3 := Hb3.out.alloc (.cells #[.int .u8 (bv : Int)] 5)
        clear HL Hb3
        generalize W1.alloc (.cells #[.int .u8 (bv : Int)] 5) = W2 at hL hb8 hb3 ⊢
        generalize W1.heap.size = b8 at hb8 ⊢
        refine hK.out _ _ (fun _ => hL.b6.cell 4) (fun hHeld => ?_)
        have Hb3 := Lib.hid hb3
        have Hb8 := Lib.hid hb8
        have HL := Lib.hid hL
        clear hK K hL hHeld hb3 hb8
        try simp only [nrm, Act.put]
        refine wpAnyL_ready (rs := [4, 9]) (by kernel_rfl) (by simp) ?_
        refine AllReadyL.cons rfl (fun K hK => ?_) ( AllReadyL.cons rfl (fun K hK => ?_) AllReadyL.nil)
        ·
         go_simp
         obtain ⟨xl, ex, hxq⟩ := ss4_ok zs k
         refine (pick_walk zs g k _ 4 (b3 + 1) ss4 (by decide) (by decide) (by decide) W2 HL.out.st.tape (reads_blk (us := ss4.map Value.string) Hb3.out.blk) Hb3.out.lt Hb3.out.off).mono ?_
         rw [ex]
         rintro _ W3 ⟨rfl, ht, hg, -⟩
         generalize nextA zs k ss4.length = k at ht
         clear ex
         generalize hz : (⟨xl.toArray⟩ : ByteArray) = z
         have HZ := Lib.hid hz
         have HXQ := Lib.hid hxq
         have hzs : z.size ≤ 2 := by rw [← hz, size_mks]; exact qs4_le xl hxq
         clear hz hxq
         go_simp
         have hb8 := Hb8.out.call hg
         have hL := HL.out.call ht hg
         refine hK.out _ _ (fun _ => hL.b6.cell 4) (fun hHeld => ?_)
         clear HL Hb3 Hb8
         have Hb8 := Lib.hid hb8
         clear hb8
         have HL := Lib.hid hL
         clear hK K hL ht hg hHeld
         try simp only [nrm, Act.put]
         refine rdl 9 rfl fun K hK => ?_
         have hc9 := HCV.out W3 b8 Hb8.out.blk
         go_simp
         refine hK.out _ _ (fun _ => HL.out.b6.cell 4) (fun hHeld => ?_)
         clear hK K hHeld hc9 Hb8
         try simp only [nrm, Act.put]
         have hadd : ¬ 9223372036854775807 < z.size + 1 := by omega
         refine wpAnyL_take (i := 10) (v := ?_) [14] rfl (by kernel_rfl) (by kernel_rfl) (by kernel_rfl) (by intro _ _ _ h; exact nomatch h.1) (by kernel_rfl) (HoldF.flag rfl) (Or.inl ⟨?_, ?_⟩) (fun _ => HL.out.b6.cell 4) ?_; rotate_left; rfl; focus (intro w hSw; replace hSw := hSw.held (by simp); (try dsimp only at hSw); go_simp; all_goals (with_reducible rfl))
         try simp only [nrm, Act.put]
         obtain ⟨n, hn⟩ : ∃ n, z ++ y = n := ⟨_, rfl⟩
         have HN : Hid (Value.string n = strV (xl ++ [bt])) := by show _ = _; rw [← hn, ← HZ.out, ← HY.out, cat_mk]; rfl
         rw [hn]
         clear hn hadd HZ
         refine rdl 11 rfl fun K hK => ?_
         go_simp
         have hb11 := Blk.new W3 9 #[.string n]
         have hL := HL.out.alloc (.cells #[.string n] 9)
         clear HL
         generalize W3.alloc (.cells #[.string n] 9) = W4 at hL hb11 ⊢
         generalize W3.heap.size = b11 at hb11 ⊢
         refine hK.out _ _ (fun _ => hL.b6.cell 4) (fun hHeld => ?_)
         have HB11 := Lib.hid hb11
         have HL := Lib.hid hL
         clear hK K hL hHeld hb11
         try simp only [nrm, Act.put]
         refine rdl 12 rfl fun K hK => ?_
         obtain ⟨vs0, ho0, ho1, hj0⟩ := HL.out.kids
         refine step_append_any W4 rfl (.tmp 54) (.tmp 64) 23 rfl (w.heap.size + 2) 9 is0 (.string ⟨#[]⟩) 1 16 Tryz.underlying23 his hs0 hs1 hs2 rfl (by decide) (.slice NA names.length nc) names.length (strVs names) rfl ho0 W4.heap.size (some ⟨b11, 0, none⟩) 1 1 [.string n] rfl (blk_reads HB11.out) (by simp [Value.oneCell']) (by unfold maxLen; omega) (by omega) (by have := HL.out.b6.lt; omega) ?_
         intro nv3 W5 ho hg hnn
         rw [HN.out] at ho
         have hL := HL.out.name ho hg hnn
         obtain ⟨NA3, nc3, rfl, _, _⟩ := own_reads ho (Nat.le_refl _)
         refine hK.out _ _ (fun _ => hL.b6.cell 4) (fun hHeld => ?_)
         clear HL HB11 HN
         have HL := Lib.hid hL
         clear hK K hL hHeld ho0 ho1 hj0 ho hg hnn
         try simp only [nrm, Act.put]
         refine rdl 13 rfl fun K hK => ?_
         go_simp
         refine hK.out _ _ (fun _ => HL.out.b6.cell 4) (fun hHeld => ?_)
         clear hK K hHeld
         try simp only [nrm, Act.put]
         refine rdl 14 rfl fun K hK => ?_
         have c4 := HL.out.b6.cell 4
         have f4 := HL.out.b6.frozen 4
         simp only [List.getElem?_toArray, List.getElem?_cons_zero, List.getElem?_cons_succ] at c4
         go_simp
         have hL := HL.out.set_ 4 (.slice NA3 (names.length + 1) nc3)
         clear HL c4 f4
         generalize W5.setCell ⟨w.heap.size + 1, 4, none⟩ (.slice NA3 (names.length + 1) nc3) = W6 at hL ⊢
         refine hK.out _ _ (fun h => nomatch (show true = false from h)) (fun hHeld => ?_)
         have HL := Lib.hid hL
         clear hK K hHeld hL
         try simp only [nrm, Act.put]
         refine wpAnyL_done (by kernel_rfl) ?_ _
         exact ⟨rfl, _, _, _, _, _, _, NA3, nc3, k, xl, rfl, HXQ, HL⟩
        ·
         have hc9 := HCV.out W2 b8 Hb8.out.blk
         go_simp
         refine hK.out _ _ (fun _ => HL.out.b6.cell 4) (fun hHeld => ?_)
         clear hK K hHeld hc9 Hb8
         try simp only [nrm, Act.put]
         refine rdl 4 rfl fun K hK => ?_
         go_simp
         obtain ⟨xl, ex, hxq⟩ := ss4_ok zs k
         refine (pick_walk zs g k _ 4 (b3 + 1) ss4 (by decide) (by decide) (by decide) W2 HL.out.st.tape (reads_blk (us := ss4.map Value.string) Hb3.out.blk) Hb3.out.lt Hb3.out.off).mono ?_
         rw [ex]
         rintro _ W3 ⟨rfl, ht, hg, -⟩
         generalize nextA zs k ss4.length = k at ht
         clear ex
         generalize hz : (⟨xl.toArray⟩ : ByteArray) = z
         have HZ := Lib.hid hz
         have HXQ := Lib.hid hxq
         have hzs : z.size ≤ 2 := by rw [← hz, size_mks]; exact qs4_le xl hxq
         clear hz hxq
         go_simp
         have hL := HL.out.call ht hg
         refine hK.out _ _ (fun _ => hL.b6.cell 4) (fun hHeld => ?_)
         clear HL Hb3
         have HL := Lib.hid hL
         clear hK K hL ht hg hHeld
         try simp only [nrm, Act.put]
         have hadd : ¬ 9223372036854775807 < z.size + 1 := by omega
         refine wpAnyL_take (i := 10) (v := ?_) [14] rfl (by kernel_rfl) (by kernel_rfl) (by kernel_rfl) (by intro _ _ _ h; exact nomatch h.1) (by kernel_rfl) (HoldF.flag rfl) (Or.inl ⟨?_, ?_⟩) (fun _ => HL.out.b6.cell 4) ?_; rotate_left; rfl; focus (intro w hSw; replace hSw := hSw.held (by simp); (try dsimp only at hSw); go_simp; all_goals (with_reducible rfl))
         try simp only [nrm, Act.put]
         obtain ⟨n, hn⟩ : ∃ n, z ++ y = n := ⟨_, rfl⟩
         have HN : Hid (Value.string n = strV (xl ++ [bt])) := by show _ = _; rw [← hn, ← HZ.out, ← HY.out, cat_mk]; rfl
         rw [hn]
         clear hn hadd HZ
         refine rdl 11 rfl fun K hK => ?_
         go_simp
         have hb11 := Blk.new W3 9 #[.string n]
         have hL := HL.out.alloc (.cells #[.string n] 9)
         clear HL
         generalize W3.alloc (.cells #[.string n] 9) = W4 at hL hb11 ⊢
         generalize W3.heap.size = b11 at hb11 ⊢
         refine hK.out _ _ (fun _ => hL.b6.cell 4) (fun hHeld => ?_)
         have HB11 := Lib.hid hb11
         have HL := Lib.hid hL
         clear hK K hL hHeld hb11
         try simp only [nrm, Act.put]
         refine rdl 12 rfl fun K hK => ?_
         obtain ⟨vs0, ho0, ho1, hj0⟩ := HL.out.kids
         refine step_append_any W4 rfl (.tmp 54) (.tmp 64) 23 rfl (w.heap.size + 2) 9 is0 (.string ⟨#[]⟩) 1 16 Tryz.underlying23 his hs0 hs1 hs2 rfl (by decide) (.slice NA names.length nc) names.length (strVs names) rfl ho0 W4.heap.size (some ⟨b11, 0, none⟩) 1 1 [.string n] rfl (blk_reads HB11.out) (by simp [Value.oneCell']) (by unfold maxLen; omega) (by omega) (by have := HL.out.b6.lt; omega) ?_
         intro nv3 W5 ho hg hnn
         rw [HN.out] at ho
         have hL := HL.out.name ho hg hnn
         obtain ⟨NA3, nc3, rfl, _, _⟩ := own_reads ho (Nat.le_refl _)
         refine hK.out _ _ (fun _ => hL.b6.cell 4) (fun hHeld => ?_)
         clear HL HB11 HN
         have HL := Lib.hid hL
         clear hK K hL hHeld ho0 ho1 hj0 ho hg hnn
         try simp only [nrm, Act.put]
         refine rdl 13 rfl fun K hK => ?_
         go_simp
         refine hK.out _ _ (fun _ => HL.out.b6.cell 4) (fun hHeld => ?_)
         clear hK K hHeld
         try simp only [nrm, Act.put]
         refine rdl 14 rfl fun K hK => ?_
         have c4 := HL.out.b6.cell 4
         have f4 := HL.out.b6.frozen 4
         simp only [List.getElem?_toArray, List.getElem?_cons_zero, List.getElem?_cons_succ] at c4
         go_simp
         have hL := HL.out.set_ 4 (.slice NA3 (names.length + 1) nc3)
         clear HL c4 f4
         generalize W5.setCell ⟨w.heap.size + 1, 4, none⟩ (.slice NA3 (names.length + 1) nc3) = W6 at hL ⊢
         refine hK.out _ _ (fun h => nomatch (show true = false from h)) (fun hHeld => ?_)
         have HL := Lib.hid hL
         clear hK K hHeld hL
         try simp only [nrm, Act.put]
         refine wpAnyL_done (by kernel_rfl) ?_ _
         exact ⟨rfl, _, _, _, _, _, _, NA3, nc3, k, xl, rfl, HXQ, HL⟩
      ·
       go_simp
       have hb8 := HL.out.made 5 #[.int .u8 (bv : Int)]
       have hL := HL.out.alloc (.cells #[.int .u8 (bv : Int)] 5)
       clear HL
       generalize W0.alloc (.cells #[.int .u8 (bv : Int)] 5) = W1 at hL hb8 ⊢
       generalize W0.heap.size = b8 at hb8 ⊢
       refine hK.out _ _ (fun _ => hL.b6.cell 4) (fun hHeld => ?_)
       have Hb8 := Lib.hid hb8
       have HL := Lib.hid hL
       clear hK K hL hHeld hb8
       try simp only [nrm, Act.put]
       refine wpAnyL_ready (rs := [3, 9]) (by kernel_rfl) (by simp) ?_
       refine AllReadyL.cons rfl (fun K hK => ?_) ( AllReadyL.cons rfl (fun K hK => ?_) AllReadyL.nil)
       ·
        go_simp
        have hb3 := HL.out.made 9 cJ4
        have hL := HL.out.alloc (.cells cJ4 9)
        have hb8 := Hb8.out.alloc (.cells cJ4 9)
        clear HL Hb8
        generalize W1.alloc (.cells cJ4 9) = W2 at hL hb3 hb8 ⊢
        generalize W1.heap.size = b3 at hb3 ⊢
        refine hK.out _ _ (fun _ => hL.b6.cell 4) (fun hHeld => ?_)
        have Hb8 := Lib.hid hb8
        have Hb3 := Lib.hid hb3
        have HL := Lib.hid hL
        clear hK K hL hHeld hb8 hb3
        try simp only [nrm, Act.put]
        refine wpAnyL_ready (rs := [4, 9]) (by kernel_rfl) (by simp) ?_
        refine AllReadyL.cons rfl (fun K hK => ?_) ( AllReadyL.cons rfl (fun K hK => ?_) AllReadyL.nil)
        ·
         go_simp
         obtain ⟨xl, ex, hxq⟩ := ss4_ok zs k
         refine (pick_walk zs g k _ 4 (b3 + 1) ss4 (by decide) (by decide) (by decide) W2 HL.out.st.tape (reads_blk (us := ss4.map Value.string) Hb3.out.blk) Hb3.out.lt Hb3.out.off).mono ?_
         rw [ex]
         rintro _ W3 ⟨rfl, ht, hg, -⟩
         generalize nextA zs k ss4.length = k at ht
         clear ex
         generalize hz : (⟨xl.toArray⟩ : ByteArray) = z
         have HZ := Lib.hid hz
         have HXQ := Lib.hid hxq
         have hzs : z.size ≤ 2 := by rw [← hz, size_mks]; exact qs4_le xl hxq
         clear hz hxq
         go_simp
         have hb8 := Hb8.out.call hg
         have hL := HL.out.call ht hg
         refine hK.out _ _ (fun _ => hL.b6.cell 4) (fun hHeld => ?_)
         clear HL Hb3 Hb8
         have Hb8 := Lib.hid hb8
         clear hb8
         have HL := Lib.hid hL
         clear hK K hL ht hg hHeld
         try simp only [nrm, Act.put]
         refine rdl 9 rfl fun K hK => ?_
         have hc9 := HCV.out W3 b8 Hb8.out.blk
         go_simp
         refine hK.out _ _ (fun _ => HL.out.b6.cell 4) (fun hHeld => ?_)
         clear hK K hHeld hc9 Hb8
         try simp only [nrm, Act.put]
         have hadd : ¬ 9223372036854775807 < z.size + 1 := by omega
         refine wpAnyL_take (i := 10) (v := ?_) [14] rfl (by kernel_rfl) (by kernel_rfl) (by kernel_rfl) (by intro _ _ _ h; exact nomatch h.1) (by kernel_rfl) (HoldF.flag rfl) (Or.inl ⟨?_, ?_⟩) (fun _ => HL.out.b6.cell 4) ?_; rotate_left; rfl; focus (intro w hSw; replace hSw := hSw.held (by simp); (try dsimp only at hSw); go_simp; all_goals (with_reducible rfl))
         try simp only [nrm, Act.put]
         obtain ⟨n, hn⟩ : ∃ n, z ++ y = n := ⟨_, rfl⟩
         have HN : Hid (Value.string n = strV (xl ++ [bt])) := by show _ = _; rw [← hn, ← HZ.out, ← HY.out, cat_mk]; rfl
         rw [hn]
         clear hn hadd HZ
         refine rdl 11 rfl fun K hK => ?_
         go_simp
         have hb11 := Blk.new W3 9 #[.string n]
         have hL := HL.out.alloc (.cells #[.string n] 9)
         clear HL
         generalize W3.alloc (.cells #[.string n] 9) = W4 at hL hb11 ⊢
         generalize W3.heap.size = b11 at hb11 ⊢
         refine hK.out _ _ (fun _ => hL.b6.cell 4) (fun hHeld => ?_)
         have HB11 := Lib.hid hb11
         have HL := Lib.hid hL
         clear hK K hL hHeld hb11
         try simp only [nrm, Act.put]
         refine rdl 12 rfl fun K hK => ?_
         obtain ⟨vs0, ho0, ho1, hj0⟩ := HL.out.kids
         refine step_append_any W4 rfl (.tmp 54) (.tmp 64) 23 rfl (w.heap.size + 2) 9 is0 (.string ⟨#[]⟩) 1 16 Tryz.underlying23 his hs0 hs1 hs2 rfl (by decide) (.slice NA names.length nc) names.length (strVs names) rfl ho0 W4.heap.size (some ⟨b11, 0, none⟩) 1 1 [.string n] rfl (blk_reads HB11.out) (by simp [Value.oneCell']) (by unfold maxLen; omega) (by omega) (by have := HL.out.b6.lt; omega) ?_
         intro nv3 W5 ho hg hnn
         rw [HN.out] at ho
         have hL := HL.out.name ho hg hnn
         obtain ⟨NA3, nc3, rfl, _, _⟩ := own_reads ho (Nat.le_refl _)
         refine hK.out _ _ (fun _ => hL.b6.cell 4) (fun hHeld => ?_)
         clear HL HB11 HN
         have HL := Lib.hid hL
         clear hK K hL hHeld ho0 ho1 hj0 ho hg hnn
         try simp only [nrm, Act.put]
         refine rdl 13 rfl fun K hK => ?_
         go_simp
         refine hK.out _ _ (fun _ => HL.out.b6.cell 4) (fun hHeld => ?_)
         clear hK K hHeld
         try simp only [nrm, Act.put]
         refine rdl 14 rfl fun K hK => ?_
         have c4 := HL.out.b6.cell 4
         have f4 := HL.out.b6.frozen 4
         simp only [List.getElem?_toArray, List.getElem?_cons_zero, List.getElem?_cons_succ] at c4
         go_simp
         have hL := HL.out.set_ 4 (.slice NA3 (names.length + 1) nc3)
         clear HL c4 f4
         generalize W5.setCell ⟨w.heap.size + 1, 4, none⟩ (.slice NA3 (names.length + 1) nc3) = W6 at hL ⊢
         refine hK.out _ _ (fun h => nomatch (show true = false from h)) (fun hHeld => ?_)
         have HL := Lib.hid hL
         clear hK K hHeld hL
         try simp only [nrm, Act.put]
         refine wpAnyL_done (by kernel_rfl) ?_ _
         exact ⟨rfl, _, _, _, _, _, _, NA3, nc3, k, xl, rfl, HXQ, HL⟩
        ·
         have hc9 := HCV.out W2 b8 Hb8.out.blk
         go_simp
         refine hK.out _ _ (fun _ => HL.out.b6.cell 4) (fun hHeld => ?_)
         clear hK K hHeld hc9 Hb8
         try simp only [nrm, Act.put]
         refine rdl 4 rfl fun K hK => ?_
         go_simp
         obtain ⟨xl, ex, hxq⟩ := ss4_ok zs k
         refine (pick_walk zs g k _ 4 (b3 + 1) ss4 (by decide) (by decide) (by decide) W2 HL.out.st.tape (reads_blk (us := ss4.map Value.string) Hb3.out.blk) Hb3.out.lt Hb3.out.off).mono ?_
         rw [ex]
         rintro _ W3 ⟨rfl, ht, hg, -⟩
         generalize nextA zs k ss4.length = k at ht
         clear ex
         generalize hz : (⟨xl.toArray⟩ : ByteArray) = z
         have HZ := Lib.hid hz
         have HXQ := Lib.hid hxq
         have hzs : z.size ≤ 2 := by rw [← hz, size_mks]; exact qs4_le xl hxq
         clear hz hxq
         go_simp
         have hL := HL.out.call ht hg
         refine hK.out _ _ (fun _ => hL.b6.cell 4) (fun hHeld => ?_)
         clear HL Hb3
         have HL := Lib.hid hL
         clear hK K hL ht hg hHeld
         try simp only [nrm, Act.put]
         have hadd : ¬ 9223372036854775807 < z.size + 1 := by omega
         refine wpAnyL_take (i := 10) (v := ?_) [14] rfl (by kernel_rfl) (by kernel_rfl) (by kernel_rfl) (by intro _ _ _ h; exact nomatch h.1) (by kernel_rfl) (HoldF.flag rfl) (Or.inl ⟨?_, ?_⟩) (fun _ => HL.out.b6.cell 4) ?_; rotate_left; rfl; focus (intro w hSw; replace hSw := hSw.held (by simp); (try dsimp only at hSw); go_simp; all_goals (with_reducible rfl))
         try simp only [nrm, Act.put]
         obtain ⟨n, hn⟩ : ∃ n, z ++ y = n := ⟨_, rfl⟩
         have HN : Hid (Value.string n = strV (xl ++ [bt])) := by show _ = _; rw [← hn, ← HZ.out, ← HY.out, cat_mk]; rfl
         rw [hn]
         clear hn hadd HZ
         refine rdl 11 rfl fun K hK => ?_
         go_simp
         have hb11 := Blk.new W3 9 #[.string n]
         have hL := HL.out.alloc (.cells #[.string n] 9)
         clear HL
         generalize W3.alloc (.cells #[.string n] 9) = W4 at hL hb11 ⊢
         generalize W3.heap.size = b11 at hb11 ⊢
         refine hK.out _ _ (fun _ => hL.b6.cell 4) (fun hHeld => ?_)
         have HB11 := Lib.hid hb11
         have HL := Lib.hid hL
         clear hK K hL hHeld hb11
         try simp only [nrm, Act.put]
         refine rdl 12 rfl fun K hK => ?_
         obtain ⟨vs0, ho0, ho1, hj0⟩ := HL.out.kids
         refine step_append_any W4 rfl (.tmp 54) (.tmp 64) 23 rfl (w.heap.size + 2) 9 is0 (.string ⟨#[]⟩) 1 16 Tryz.underlying23 his hs0 hs1 hs2 rfl (by decide) (.slice NA names.length nc) names.length (strVs names) rfl ho0 W4.heap.size (some ⟨b11, 0, none⟩) 1 1 [.string n] rfl (blk_reads HB11.out) (by simp [Value.oneCell']) (by unfold maxLen; omega) (by omega) (by have := HL.out.b6.lt; omega) ?_
         intro nv3 W5 ho hg hnn
         rw [HN.out] at ho
         have hL := HL.out.name ho hg hnn
         obtain ⟨NA3, nc3, rfl, _, _⟩ := own_reads ho (Nat.le_refl _)
         refine hK.out _ _ (fun _ => hL.b6.cell 4) (fun hHeld => ?_)
         clear HL HB11 HN
         have HL := Lib.hid hL
         clear hK K hL hHeld ho0 ho1 hj0 ho hg hnn
         try simp only [nrm, Act.put]
         refine rdl 13 rfl fun K hK => ?_
         go_simp
         refine hK.out _ _ (fun _ => HL.out.b6.cell 4) (fun hHeld => ?_)
         clear hK K hHeld
         try simp only [nrm, Act.put]
         refine rdl 14 rfl fun K hK => ?_
         have c4 := HL.out.b6.cell 4
         have f4 := HL.out.b6.frozen 4
         simp only [List.getElem?_toArray, List.getElem?_cons_zero, List.getElem?_cons_succ] at c4
         go_simp
         have hL := HL.out.set_ 4 (.slice NA3 (names.length + 1) nc3)
         clear HL c4 f4
         generalize W5.setCell ⟨w.heap.size + 1, 4, none⟩ (.slice NA3 (names.length + 1) nc3) = W6 at hL ⊢
         refine hK.out _ _ (fun h => nomatch (show true = false from h)) (fun hHeld => ?_)
         have HL := Lib.hid hL
         clear hK K hHeld hL
         try simp only [nrm, Act.put]
         refine wpAnyL_done (by kernel_rfl) ?_ _
         exact ⟨rfl, _, _, _, _, _, _, NA3, nc3, k, xl, rfl, HXQ, HL⟩
       ·
        have hc9 := HCV.out W1 b8 Hb8.out.blk
        go_simp
        refine hK.out _ _ (fun _ => HL.out.b6.cell 4) (fun hHeld => ?_)
        clear hK K hHeld hc9 Hb8
        try simp only [nrm, Act.put]
        refine rdl 3 rfl fun K hK => ?_
        go_simp
        have hb3 := HL.out.made 9 cJ4
        have hL := HL.out.alloc (.cells cJ4 9)
        clear HL
        generalize W1.alloc (.cells cJ4 9) = W2 at hL hb3 ⊢
        generalize W1.heap.size = b3 at hb3 ⊢
        refine hK.out _ _ (fun _ => hL.b6.cell 4) (fun hHeld => ?_)
        have Hb3 := Lib.hid hb3
        have HL := Lib.hid hL
        clear hK K hL hHeld hb3
        try simp only [nrm, Act.put]
        refine rdl 4 rfl fun K hK => ?_
        go_simp
        obtain ⟨xl, ex, hxq⟩ := ss4_ok zs k
        refine (pick_walk zs g k _ 4 (b3 + 1) ss4 (by decide) (by decide) (by decide) W2 HL.out.st.tape (reads_blk (us := ss4.map Value.string) Hb3.out.blk) Hb3.out.lt Hb3.out.off).mono ?_
        rw [ex]
        rintro _ W3 ⟨rfl, ht, hg, -⟩
        generalize nextA zs k ss4.length = k at ht
        clear ex
        generalize hz : (⟨xl.toArray⟩ : ByteArray) = z
        have HZ := Lib.hid hz
        have HXQ := Lib.hid hxq
        have hzs : z.size ≤ 2 := by rw [← hz, size_mks]; exact qs4_le xl hxq
        clear hz hxq
        go_simp
        have hL := HL.out.call ht hg
        refine hK.out _ _ (fun _ => hL.b6.cell 4) (fun hHeld => ?_)
        clear HL Hb3
        have HL := Lib.hid hL
        clear hK K hL ht hg hHeld
        try simp only [nrm, Act.put]
        have hadd : ¬ 9223372036854775807 < z.size + 1 := by omega
        refine wpAnyL_take (i := 10) (v := ?_) [14] rfl (by kernel_rfl) (by kernel_rfl) (by kernel_rfl) (by intro _ _ _ h; exact nomatch h.1) (by kernel_rfl) (HoldF.flag rfl) (Or.inl ⟨?_, ?_⟩) (fun _ => HL.out.b6.cell 4) ?_; rotate_left; rfl; focus (intro w hSw; replace hSw := hSw.held (by simp); (try dsimp only at hSw); go_simp; all_goals (with_reducible rfl))
        try simp only [nrm, Act.put]
        obtain ⟨n, hn⟩ : ∃ n, z ++ y = n := ⟨_, rfl⟩
        have HN : Hid (Value.string n = strV (xl ++ [bt])) := by show _ = _; rw [← hn, ← HZ.out, ← HY.out, cat_mk]; rfl
        rw [hn]
        clear hn hadd HZ
        refine rdl 11 rfl fun K hK => ?_
        go_simp
        have hb11 := Blk.new W3 9 #[.string n]
        have hL := HL.out.alloc (.cells #[.string n] 9)
        clear HL
        generalize W3.alloc (.cells #[.string n] 9) = W4 at hL hb11 ⊢
        generalize W3.heap.size = b11 at hb11 ⊢
        refine hK.out _ _ (fun _ => hL.b6.cell 4) (fun hHeld => ?_)
        have HB11 := Lib.hid hb11
        have HL := Lib.hid hL
        clear hK K hL hHeld hb11
        try simp only [nrm, Act.put]
        refine rdl 12 rfl fun K hK => ?_
        obtain ⟨vs0, ho0, ho1, hj0⟩ := HL.out.kids
        refine step_append_any W4 rfl (.tmp 54) (.tmp 64) 23 rfl (w.heap.size + 2) 9 is0 (.string ⟨#[]⟩) 1 16 Tryz.underlying23 his hs0 hs1 hs2 rfl (by decide) (.slice NA names.length nc) names.length (strVs names) rfl ho0 W4.heap.size (some ⟨b11, 0, none⟩) 1 1 [.string n] rfl (blk_reads HB11.out) (by simp [Value.oneCell']) (by unfold maxLen; omega) (by omega) (by have := HL.out.b6.lt; omega) ?_
        intro nv3 W5 ho hg hnn
        rw [HN.out] at ho
        have hL := HL.out.name ho hg hnn
        obtain ⟨NA3, nc3, rfl, _, _⟩ := own_reads ho (Nat.le_refl _)
        refine hK.out _ _ (fun _ => hL.b6.cell 4) (fun hHeld => ?_)
        clear HL HB11 HN
        have HL := Lib.hid hL
        clear hK K hL hHeld ho0 ho1 hj0 ho hg hnn
        try simp only [nrm, Act.put]
        refine rdl 13 rfl fun K hK => ?_
        go_simp
        refine hK.out _ _ (fun _ => HL.out.b6.cell 4) (fun hHeld => ?_)
        clear hK K hHeld
        try simp only [nrm, Act.put]
        refine rdl 14 rfl fun K hK => ?_
        have c4 := HL.out.b6.cell 4
        have f4 := HL.out.b6.frozen 4
        simp only [List.getElem?_toArray, List.getElem?_cons_zero, List.getElem?_cons_succ] at c4
        go_simp
        have hL := HL.out.set_ 4 (.slice NA3 (names.length + 1) nc3)
        clear HL c4 f4
        generalize W5.setCell ⟨w.heap.size + 1, 4, none⟩ (.slice NA3 (names.length + 1) nc3) = W6 at hL ⊢
        refine hK.out _ _ (fun h => nomatch (show true = false from h)) (fun hHeld => ?_)
        have HL := Lib.hid hL
        clear hK K hHeld hL
        try simp only [nrm, Act.put]
        refine wpAnyL_done (by kernel_rfl) ?_ _
        exact ⟨rfl, _, _, _, _, _, _, NA3, nc3, k, xl, rfl, HXQ, HL⟩
     ·
      rintro a' W6 ⟨v56, v57, v61, v62, v63, v64, NA3, nc3, k3, xl, rfl, HXQ, HL⟩
      try simp only [nrm, Act.put]
      go_wp2_with fail
      replace HL := Lib.hid HL.out.drew
      have hC : HoldF 9 (fun W => W.cell? ⟨w.heap.size + 1, 5, none⟩ = some (.slice A acc.length c)) (Array.replicate 10 false) W6.drew := fun _ => HL.out.b6.cell 5
      refine region_fin (F := fun a a' W => ∃ (v72 v73 : Value) (A3 : Option Addr) (c3 k4 : Nat) (x : Jv), a' = (((((((((a.put (some 67) (.pointer (some ⟨w.heap.size + 1, 5, none⟩))).put (some 68) (.slice A acc.length c)).put (some 69) (.pointer (some ⟨g, 0, none⟩))).put (some 70) (.int .i64 (d : Int))).put (some 71) (.int .i64 (d' : Int))).put (some 72) v72).put (some 73) v73).put (some 74) (.slice A3 (acc.length + 1) c3)).put (some 75) (.pointer (some ⟨w.heap.size + 1, 5, none⟩))) ∧ Hid (FitV d' x) ∧ Hid (LoopV zs g w k4 #[.int .i64 6, .bool false, .int .i64 0, .string ⟨#[]⟩, .slice NA3 (names.length + 1) nc3, .slice A3 (acc.length + 1) c3] (.slice NA3 (names.length + 1) nc3) (names ++ [xl ++ [bt]]) (.slice A3 (acc.length + 1) c3) (acc ++ [x]) W)) ?_ ?_
      ·
       clear gi gi' hjw g1 g2
       refine wp_region_L (S := HoldF 9 (fun W => W.cell? ⟨w.heap.size + 1, 5, none⟩ = some (.slice A acc.length c))) (by kernel_rfl) ?_
       refine tkl 0 [9] rfl ?_
       try simp only [nrm, Act.put]
       refine tkl 2 [9] rfl ?_
       try simp only [nrm, Act.put]
       refine tkl 3 [9] rfl ?_
       try simp only [nrm, Act.put]
       refine tkl 4 [9] rfl ?_
       try simp only [nrm, Act.put]
       refine tkl 1 [9] rfl ?_
       try simp only [nrm, Act.put]
       generalize W6.drew = U0 at HL ⊢
       clear hC
       refine rdl 5 rfl fun K hK => ?_
       go_simp
       have hown : (∀ q, Value.ownBlock (.slice A acc.length c) = some q → q < U0.heap.size) ∧ (∀ q, Value.ownBlock (.slice NA3 (names.length + 1) nc3) = some q → q < U0.heap.size) ∧ w.heap.size + 2 ≤ U0.heap.size := by
        obtain ⟨_, h0, h1, _⟩ := HL.out.kids
        exact ⟨fun q e => (h1.lt q e).2, fun q e => (h0.lt q e).2, HL.out.b6.lt⟩
       have HOWN := Lib.hid hown
       refine (HRECD.out zs g k3 U0 HL.out.st.tape).mono ?_
       rintro _ U1 ⟨x, cs, k4, rfl, hv, ht, hg, hf⟩
       obtain ⟨kx, bx, nx, sx, NX, nnx, ncx, AX, mx, cx, rfl⟩ := hv.form
       have hL := HL.out.call ht hg
       have HV := Lib.hid hv
       have HF := Lib.hid hf
       go_simp
       refine hK.out _ _ (fun _ => hL.b6.cell 5) (fun hHeld => ?_)
       clear HL
       have HL := Lib.hid hL
       clear hK K hL hHeld hv ht hg hf hown
       try simp only [nrm, Act.put]
       refine rdl 6 rfl fun K hK => ?_
       go_simp
       have hb6 := Blk.new U1 26 #[.int .i64 kx, .bool bx, .int .i64 nx, .string sx, .slice NX nnx ncx, .slice AX mx cx]
       have hL := HL.out.alloc (.cells #[.int .i64 kx, .bool bx, .int .i64 nx, .string sx, .slice NX nnx ncx, .slice AX mx cx] 26)
       have hv := HV.out.below ((Below.refl U1.heap.size U1).alloc (Nat.le_refl _) (.cells #[.int .i64 kx, .bool bx, .int .i64 nx, .string sx, .slice NX nnx ncx, .slice AX mx cx] 26))
       clear HL HV
       generalize U1.alloc (.cells #[.int .i64 kx, .bool bx, .int .i64 nx, .string sx, .slice NX nnx ncx, .slice AX mx cx] 26) = U2 at hL hb6 hv ⊢
       generalize U1.heap.size = bx6 at hb6 ⊢
       refine hK.out _ _ (fun _ => hL.b6.cell 5) (fun hHeld => ?_)
       have HB6 := Lib.hid hb6
       have HL := Lib.hid hL
       have HV := Lib.hid hv
       clear hK K hL hHeld hb6 hv
       try simp only [nrm, Act.put]
       refine rdl 7 rfl fun K hK => ?_
       obtain ⟨vs0, ho0, ho1, hj0⟩ := HL.out.kids
       refine step_append_any U2 rfl (.tmp 68) (.tmp 73) 24 rfl (w.heap.size + 2) 26 i0 (.agg (cells6 0 false 0 [] none 0 0 none 0 0).toArray) 6 88 Tryz.underlying24 hi hz0 hz1 hz2 rfl (by decide) (.slice A acc.length c) acc.length _ rfl ho1 U2.heap.size (some ⟨bx6, 0, none⟩) 1 1 [.int .i64 kx, .bool bx, .int .i64 nx, .string sx, .slice NX nnx ncx, .slice AX mx cx] rfl (blk_reads HB6.out) (by simp [Value.oneCell']) (by unfold maxLen; omega) (by omega) (by have := HL.out.b6.lt; omega) ?_
       intro av3 U3 ho hg hnn
       have hL := HL.out.kid ho0 ho1 hj0 HV.out HOWN.out.2.2 HOWN.out.1 HOWN.out.2.1 ho hg hnn
       obtain ⟨A3, c3, rfl, _, _⟩ := own_reads ho (Nat.le_refl _)
       refine hK.out _ _ (fun _ => hL.b6.cell 5) (fun hHeld => ?_)
       clear HL HB6 HV HOWN
       have HL := Lib.hid hL
       clear hK K hL hHeld ho0 ho1 hj0 ho hg hnn
       try simp only [nrm, Act.put]
       refine rdl 8 rfl fun K hK => ?_
       go_simp
       refine hK.out _ _ (fun _ => HL.out.b6.cell 5) (fun hHeld => ?_)
       clear hK K hHeld
       try simp only [nrm, Act.put]
       refine rdl 9 rfl fun K hK => ?_
       have c5 := HL.out.b6.cell 5
       have f5 := HL.out.b6.frozen 5
       simp only [List.getElem?_toArray, List.getElem?_cons_zero, List.getElem?_cons_succ] at c5
       go_simp
       have hL := HL.out.set_ 5 (.slice A3 (acc.length + 1) c3)
       clear HL c5 f5
       generalize U3.setCell ⟨w.heap.size + 1, 5, none⟩ (.slice A3 (acc.length + 1) c3) = U4 at hL ⊢
       refine hK.out _ _ (fun h => nomatch (show true = false from h)) (fun hHeld => ?_)
       have HL := Lib.hid hL
       clear hK K hHeld hL
       try simp only [nrm, Act.put]
       refine wpAnyL_done (by kernel_rfl) ?_ _
       exact ⟨rfl, _, _, A3, c3, k4, x, rfl, HF, HL⟩
      ·
       rintro a' W8 ⟨v72, v73, A3, c3, k4, x, rfl, HF, HL⟩
       try simp only [nrm, Act.put]
       go_wp2_with fail
       have hp := HP.out
       rw [HJ.out] at hp
       have hp2 := hp.obj HF.out HXQ.out
       rw [← HJ.out, HBT.out] at hp2
       refine ⟨⟨j, k4, (names ++ [xl ++ [bt]]), acc ++ [x], _, _, rfl, HL, hp2⟩, ?_⟩
       have := HJ.out
       simp; omega
end Go.Proofs.YtieppmppdmcleaaGreatDoor
