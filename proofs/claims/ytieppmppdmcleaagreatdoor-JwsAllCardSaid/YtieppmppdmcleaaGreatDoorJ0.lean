/- json's parser: a value that is a name. Condition: a text of at most 1000000 bytes. -/
import Derived.Test.YtieppmppdmcleaaGreatDoorJz
set_option linter.unusedVariables false
set_option linter.unusedSimpArgs false
set_option maxRecDepth 20000
namespace Go.Proofs.YtieppmppdmcleaaGreatDoor
open Go.RowKit Go.Maps
def mkJ (c : Int × Bool) : Value := .agg #[.int .i64 c.1, .bool c.2, .int .i64 0, .string ⟨#[]⟩, .slice none 0 0, .slice none 0 0]
def codeJ (c : Int × Bool) : DataW Unit := .lit (.int .i64 (2 * c.1 + if c.2 then 1 else 0))
open Classical in
noncomputable def elemJ (v : Value) : Option (DataW Unit × List MemPlace) := if h : ∃ c, v = mkJ c then some (codeJ h.choose, []) else none
theorem mkJ_inj {c d : Int × Bool} (h : mkJ c = mkJ d) : c = d := by
 obtain ⟨c1, c2⟩ := c
 obtain ⟨d1, d2⟩ := d
 simp only [mkJ, Value.agg.injEq] at h
 have := congrArg Array.toList h
 simp at this
 rw [this.1, this.2]
theorem elemJ_mk (c : Int × Bool) : elemJ (mkJ c) = some (codeJ c, []) := by
 have h : ∃ d, mkJ c = mkJ d := ⟨c, rfl⟩
 unfold elemJ
 rw [dif_pos h]
 rw [← mkJ_inj h.choose_spec]
theorem elemJ_inv {v : Value} {y : DataW Unit × List MemPlace} (h : elemJ v = some y) : ∃ c, v = mkJ c := by
 unfold elemJ at h
 split at h
 ·
  rename_i hc
  exact hc
 ·
  cases h
theorem codeJ_inj {c d : Int × Bool} (h : codeJ c = codeJ d) : c = d := by
 obtain ⟨c1, c2⟩ := c
 obtain ⟨d1, d2⟩ := d
 simp only [codeJ, DataW.lit.injEq, Lit.int.injEq, true_and] at h
 cases c2 <;> cases d2 <;> simp at h ⊢ <;> omega
def nullL : List UInt8 := [110, 117, 108, 108]
def trueL : List UInt8 := [116, 114, 117, 101]
def falseL : List UInt8 := [102, 97, 108, 115, 101]
def mapJ : DataW Unit := (((DataW.map [] : DataW Unit).put (.string nullL) (codeJ (1, false))).put (.string trueL) (codeJ (2, true))).put (.string falseL) (codeJ (2, false))
theorem mapJ_has (q : List UInt8) (h : has mapJ (.string q) = true) : q = nullL ∨ q = trueL ∨ q = falseL := by
 by_cases h3 : q = falseL
 ·
  exact .inr (.inr h3)
 by_cases h2 : q = trueL
 ·
  exact .inr (.inl h2)
 by_cases h1 : q = nullL
 ·
  exact .inl h1
 exfalso
 rw [mapJ, has_put_other (by simpa using h3), has_put_other (by simpa using h2), has_put_other (by simpa using h1)] at h
 simp [has] at h
theorem mapJ_at (z : DataW Unit) : mapJ.atKey (.string nullL) z = codeJ (1, false) ∧ mapJ.atKey (.string trueL) z = codeJ (2, true) ∧ mapJ.atKey (.string falseL) z = codeJ (2, false) := by
 have m0 : IsMap (DataW.map [] : DataW Unit) := isMap_empty
 have m1 := m0.put (.string nullL) (codeJ (1, false))
 have m2 := m1.put (.string trueL) (codeJ (2, true))
 refine ⟨?_, ?_, ?_⟩
 ·
  rw [mapJ, atKey_put_other (by intro e; injection e with e; exact absurd e (by decide)), atKey_put_other (by intro e; injection e with e; exact absurd e (by decide)), atKey_put_same m0 (by trivial)]
 ·
  rw [mapJ, atKey_put_other (by intro e; injection e with e; exact absurd e (by decide)), atKey_put_same m1 (by trivial)]
 ·
  rw [mapJ, atKey_put_same m2 (by trivial)]
theorem lawS' : Keyed Tryz.prog 9 := string_keyed Tryz.underlying9
theorem wpList_insert_own {H : Type} {P : Program} (w : World) {ops : Array Oper} {rest : List Oper} {o : Oper} {a : Act} {Q : Exit → Act → World → Prop}
  (hg : o.guard = none) (m x v : Operand) (t : TypeId) (hop : o.op = Op.insert t m x v)
  (k e : TypeId) (K : Keyed P k) (ht : P.underlying t = some (.map k e)) (R : Value → Option (DataW H × List MemPlace)) (b n : Nat) (D : DataW H)
  (hm : a.eval m = .map (some b)) (hown : w.ownsMap P k R b n D) (hn : n < maxLen) (key val : Value) (kl : Lit) (hx : a.eval x = key) (hv : a.eval v = val) (hkey : keyOf P k key = some kl)
  (d : DataW H) (ps : List MemPlace) (hval : R val = some (d, ps))
  (hK : ∀ w', w'.ownsMap P k R b (n + 1) (D.put kl d) → w.grownBy w' (some b) → wpList P ops Q rest (a.put o.dst undef) w') :
  wpList P ops Q (o :: rest) a w := by
 refine wpList_plain hg fun K' hK' => ?_
 obtain ⟨w', hrun, r1, r2⟩ := hown.update K ht hn hkey hval
 unfold Oper.wp
 simp [execOp, hop, hm, hx, hv, hrun, Result.andThen]
 exact hK' _ _ (hK w' r1 r2)
theorem keyJ (x : ByteArray) (q : List UInt8) (hx : x.data.toList = q) (h : x.size ≤ 9223372036854775807) : keyOf Tryz.prog 9 (.string x) = some (.string q) := keyS x q hx h
theorem keyJ_inv {key : Value} {kl : Lit} (h : keyOf Tryz.prog 9 key = some kl) : ∃ x, key = .string x ∧ kl = .string x.data.toList := by
 have hk := Tryz.underlying9
 cases key <;> simp [keyOf, hk, mapKey] at h
 obtain ⟨_, rfl⟩ := h
 exact ⟨_, rfl, rfl⟩
theorem three_of {x : ByteArray} {k : Int} {f : Bool} (h : x.data.toList = nullL ∨ x.data.toList = trueL ∨ x.data.toList = falseL) (hat : ∀ zd, mapJ.atKey (.string x.data.toList) zd = codeJ (k, f)) :
  (x = ⟨#[110, 117, 108, 108]⟩ ∧ k = 1 ∧ f = false) ∨ (x = ⟨#[116, 114, 117, 101]⟩ ∧ k = 2 ∧ f = true) ∨ (x = ⟨#[102, 97, 108, 115, 101]⟩ ∧ k = 2 ∧ f = false) := by
 have hz := hat (.map [])
 rcases h with h | h | h
 ·
  rw [h, (mapJ_at _).1] at hz
  have := codeJ_inj hz
  injection this with h1 h2
  exact .inl ⟨str_eta _ _ h, h1.symm, h2.symm⟩
 ·
  rw [h, (mapJ_at _).2.1] at hz
  have := codeJ_inj hz
  injection this with h1 h2
  exact .inr (.inl ⟨str_eta _ _ h, h1.symm, h2.symm⟩)
 ·
  rw [h, (mapJ_at _).2.2] at hz
  have := codeJ_inj hz
  injection this with h1 h2
  exact .inr (.inr ⟨str_eta _ _ h, h1.symm, h2.symm⟩)
theorem wpList_next_J (w : World) {ops : Array Oper} {rest : List Oper} {o : Oper} {a : Act} {Q : Exit → Act → World → Prop} (hg : o.guard = none) (it : Operand) (hop : o.op = Op.next it false)
  (b r n : Nat) (left : Lit → Bool) (cnt : Nat)
  (hit : a.eval it = .pointer (some ⟨r, 0, none⟩)) (h : w.ranges Tryz.prog 9 elemJ b r n mapJ left cnt) (hin : ∀ q : List UInt8, left (.string q) = true → q = nullL ∨ q = trueL ∨ q = falseL)
  (hDone : (∀ kl, left kl = false) → wpList Tryz.prog ops Q rest (a.put o.dst (.tuple #[.bool false])) w)
  (hN : ∀ (w' : World) (cnt' : Nat), left (.string nullL) = true → w'.ranges Tryz.prog 9 elemJ b r n mapJ (fun z => left z && !z.sameKey (.string nullL)) cnt' → cnt' < cnt →
   w.grownBy w' (some r) → w'.heap.size = w.heap.size → (Instr.entry (.pointer (some ⟨r, 0, none⟩))).run Tryz.prog w' = .ok (.tuple #[.string ⟨#[110, 117, 108, 108]⟩, .agg #[.int .i64 1, .bool false, .int .i64 0, .string ⟨#[]⟩, .slice none 0 0, .slice none 0 0]]) w' →
   wpList Tryz.prog ops Q rest (a.put o.dst (.tuple #[.bool true, .string ⟨#[110, 117, 108, 108]⟩, .agg #[.int .i64 1, .bool false, .int .i64 0, .string ⟨#[]⟩, .slice none 0 0, .slice none 0 0]])) w')
  (hT : ∀ (w' : World) (cnt' : Nat), left (.string trueL) = true → w'.ranges Tryz.prog 9 elemJ b r n mapJ (fun z => left z && !z.sameKey (.string trueL)) cnt' → cnt' < cnt →
   w.grownBy w' (some r) → w'.heap.size = w.heap.size → (Instr.entry (.pointer (some ⟨r, 0, none⟩))).run Tryz.prog w' = .ok (.tuple #[.string ⟨#[116, 114, 117, 101]⟩, .agg #[.int .i64 2, .bool true, .int .i64 0, .string ⟨#[]⟩, .slice none 0 0, .slice none 0 0]]) w' →
   wpList Tryz.prog ops Q rest (a.put o.dst (.tuple #[.bool true, .string ⟨#[116, 114, 117, 101]⟩, .agg #[.int .i64 2, .bool true, .int .i64 0, .string ⟨#[]⟩, .slice none 0 0, .slice none 0 0]])) w')
  (hF : ∀ (w' : World) (cnt' : Nat), left (.string falseL) = true → w'.ranges Tryz.prog 9 elemJ b r n mapJ (fun z => left z && !z.sameKey (.string falseL)) cnt' → cnt' < cnt →
   w.grownBy w' (some r) → w'.heap.size = w.heap.size → (Instr.entry (.pointer (some ⟨r, 0, none⟩))).run Tryz.prog w' = .ok (.tuple #[.string ⟨#[102, 97, 108, 115, 101]⟩, .agg #[.int .i64 2, .bool false, .int .i64 0, .string ⟨#[]⟩, .slice none 0 0, .slice none 0 0]]) w' →
   wpList Tryz.prog ops Q rest (a.put o.dst (.tuple #[.bool true, .string ⟨#[102, 97, 108, 115, 101]⟩, .agg #[.int .i64 2, .bool false, .int .i64 0, .string ⟨#[]⟩, .slice none 0 0, .slice none 0 0]])) w') :
  wpList Tryz.prog ops Q (o :: rest) a w :=
 wpList_next_ranges w hg it hop 9 lawS' elemJ Value.string mkJ (fun key kl h => by obtain ⟨x, rfl, _⟩ := keyJ_inv h; exact ⟨x, rfl⟩) (fun v y h => elemJ_inv h) b r n mapJ left cnt hit h (fun _ hl => hDone hl)
  (fun x c kl y w' cnt' hkey hlk hv hat hrg hlt hgr hsz hen => by
   obtain ⟨x', ex, rfl⟩ := keyJ_inv hkey
   cases ex
   obtain ⟨k, f⟩ := c
   rw [elemJ_mk] at hv
   injection hv with hv
   subst hv
   rcases three_of (hin _ hlk) hat with ⟨rfl, rfl, rfl⟩ | ⟨rfl, rfl, rfl⟩ | ⟨rfl, rfl, rfl⟩
   ·
    exact hN w' cnt' hlk hrg hlt hgr hsz hen
   ·
    exact hT w' cnt' hlk hrg hlt hgr hsz hen
   ·
    exact hF w' cnt' hlk hrg hlt hgr hsz hen)
set_option maxHeartbeats 16000000 in
theorem named_walk0 (g : Nat) (s : ByteArray) (p : Nat) (w : World) (h : PAt w g s p) :
  Calls Tryz.prog 109 #[.pointer (some ⟨g, 0, none⟩)] w (WordR g s (nameR (s.data.toList.drop p)) w) := by
 have hgl := h.lt
 have hsm := h.2.2
 have hp := h.2.1
 have H := Lib.hid h
 have hmm := @run_makeMap Tryz.prog
 have HM := Lib.hid (World.ownsMap_made w Tryz.prog 9 elemJ)
 clear h
 go_enter Tryz.func109, Tryz.ntmps109
 go_wp2_with (first
  | (refine wpList_insert_own _ rfl _ _ _ 158 rfl 9 26 lawS' Tryz.underlying158 elemJ w.heap.size 0 _ rfl HM.out (by unfold maxLen; omega) (.string ⟨#[110, 117, 108, 108]⟩) (mkJ (1, false)) (.string nullL) rfl rfl (keyJ _ _ rfl (by decide)) (codeJ (1, false)) [] (elemJ_mk _) ?_; intro w1 hown1 hg1; go_frame)
  | (refine wpList_insert_own _ rfl _ _ _ 158 rfl 9 26 lawS' Tryz.underlying158 elemJ w.heap.size 1 _ rfl hown1 (by unfold maxLen; omega) (.string ⟨#[116, 114, 117, 101]⟩) (mkJ (2, true)) (.string trueL) rfl rfl (keyJ _ _ rfl (by decide)) (codeJ (2, true)) [] (elemJ_mk _) ?_; intro w2 hown2 hg2; go_frame)
  | (refine wpList_insert_own _ rfl _ _ _ 158 rfl 9 26 lawS' Tryz.underlying158 elemJ w.heap.size 2 _ rfl hown2 (by unfold maxLen; omega) (.string ⟨#[102, 97, 108, 115, 101]⟩) (mkJ (2, false)) (.string falseL) rfl rfl (keyJ _ _ rfl (by decide)) (codeJ (2, false)) [] (elemJ_mk _) ?_; intro w3 hown3 hg3; go_frame)
  | (at_range; refine wpList_range_own _ rfl _ 158 rfl 9 26 lawS' Tryz.underlying158 elemJ w.heap.size 3 _ rfl hown3 ?_; intro w0 hrg0 hg0 hs0; go_frame))
 have hrg : w0.ranges Tryz.prog 9 elemJ w.heap.size w3.heap.size 3 mapJ (has mapJ) (Maps.size mapJ) := hrg0
 have hA := only_refl w none
 have hg00 : w.grownBy w0 (some g) := by
  have h0 : w.grownBy (w.alloc (.map #[] 0)) (some g) := below_row ((Below.refl w.heap.size w).alloc (Nat.le_refl _) _) _
  have h1 := grown_then h0 hg1 (fun q e => by injection e with e; exact .inr (by omega))
  have h2 := grown_then h1 hg2 (fun q e => by injection e with e; exact .inr (by omega))
  have h3 := grown_then h2 hg3 (fun q e => by injection e with e; exact .inr (by omega))
  exact grown_then h3 hg0 (fun q e => by cases e)
 have hb3 : w.heap.size < w3.heap.size := by
  have h1 := hg1.size
  have h2 := hg2.size
  have h3 := hg3.size
  simp at h1
  omega
 have HPW : Hid (PAt w0 g s p) := ⟨(((H.out.1.alloc (.map #[] 0)).grown hg1 (fun e => by injection e with e; omega)).grown hg2 (fun e => by injection e with e; omega)).grown hg3 (fun e => by injection e with e; omega) |>.grown hg0 (fun e => by cases e), H.out.2⟩
 have HG0 := Lib.hid hg00
 obtain ⟨r, hr⟩ : ∃ r, w3.heap.size = r := ⟨_, rfl⟩
 rw [hr] at hrg hb3 hs0 ⊢
 clear hrg0 hown1 hown2 hown3 hg0 hg1 hg2 hg3 hA hg00 H HM hr hmm
 go_loopw [11] (fun _ wr => ∃ (left : Lit → Bool) (cnt : Nat), wr.ranges Tryz.prog 9 elemJ w.heap.size r 3 mapJ left cnt ∧ Hid (PAt wr g s p) ∧ Hid (w.grownBy wr (some g)) ∧ Hid (∀ q : List UInt8, left (.string q) = true → q = nullL ∨ q = trueL ∨ q = falseL) ∧ Hid (∀ q : List UInt8, (q = nullL ∨ q = trueL ∨ q = falseL) → left (.string q) = false → q.isPrefixOf (s.data.toList.drop p) = false))
  (fun _ wr => wr.rangeLeft w.heap.size r)
 case atStart =>
  refine ⟨_, _, hrg, HPW, HG0, fun q hq => mapJ_has q hq, fun q hq hf => ?_⟩
  exfalso
  rcases hq with rfl | rfl | rfl <;> exact absurd hf (by decide)
 case round =>
  obtain ⟨left, cnt, hrg, hP, hG, hin, hout⟩ := hrel
  clear HPW HG0
  obtain ⟨c0, c1, f1⟩ := hP.out.facts
  have hrl : wr.rangeLeft w.heap.size r = cnt := hrg.left_eq
  have HRL := Lib.hid hrl
  have hpl : (p : Int) ≤ (s.size : Int) := by omega
  have hex : (s.extract p s.size).data.toList = s.data.toList.drop p := by rw [Lib.extract_to_end]
  clear hrl
  go_wp2_with (first | (at_next; refine wpList_next_J _ rfl _ rfl w.heap.size r 3 left cnt rfl hrg hin.out ?_ ?_ ?_ ?_) | go_in)
  ·
   intro hl
   have hv : Hid (nameR (s.data.toList.drop p) = (.none, [])) := by
    show _ = _
    have h1 := hout.out nullL (.inl rfl) (hl _)
    have h2 := hout.out trueL (.inr (.inl rfl)) (hl _)
    have h3 := hout.out falseL (.inr (.inr rfl)) (hl _)
    simp only [nullL, trueL, falseL] at h1 h2 h3
    rw [nameR, h1, h2, h3]
    simp
   go_wp2_with fail
   go_ret
   exact wordR_none hv.out rfl hP.out hG.out
  ·
   intro w5 cnt5 hl hrg5 hlt5 hg5 hs5 hen
   have hbx := Lib.hid (Blk.new w5 26 #[.int .i64 1, .bool false, .int .i64 0, .string ⟨#[]⟩, .slice none 0 0, .slice none 0 0])
   have hba := (Below.refl w5.heap.size w5).alloc (Nat.le_refl _) (.cells #[.int .i64 1, .bool false, .int .i64 0, .string ⟨#[]⟩, .slice none 0 0, .slice none 0 0] 26)
   have hP6 := (hP.out.grown hg5 (fun e => by injection e with e; omega)).below hba
   have hG6 := grown_below2 (grown_then hG.out hg5 (fun q e => by injection e with e; exact .inr (by omega))) hba
   have hR6 := hrg5.alloc (.cells #[.int .i64 1, .bool false, .int .i64 0, .string ⟨#[]⟩, .slice none 0 0, .slice none 0 0] 26)
   have hin6 : Hid (∀ q : List UInt8, (left (.string q) && !(Lit.string q).sameKey (.string nullL)) = true → q = nullL ∨ q = trueL ∨ q = falseL) := fun q hq => hin.out q (by simp only [Bool.and_eq_true] at hq; exact hq.1)
   obtain ⟨j0, j1, j2⟩ := hP6.facts
   have HP6 := Lib.hid hP6
   have HG6 := Lib.hid hG6
   have HR6 := Lib.hid hR6
   have cpx := fun W => Tryz.strings_HasPrefix (s.extract p s.size) ⟨#[110, 117, 108, 108]⟩ W
   rw [hex] at cpx
   cases hpre : Lib.hasPrefix (s.data.toList.drop p) (⟨#[110, 117, 108, 108]⟩ : ByteArray).data.toList
   ·
    rw [hpre] at cpx
    have CPX := Lib.hid cpx
    have hout6 : Hid (∀ q : List UInt8, (q = nullL ∨ q = trueL ∨ q = falseL) → (left (.string q) && !(Lit.string q).sameKey (.string nullL)) = false → q.isPrefixOf (s.data.toList.drop p) = false) := fun q hq hf => by
     rw [Bool.and_eq_false_iff] at hf
     rcases hf with hf | hf
     ·
      exact hout.out q hq hf
     ·
      have : q = nullL := by simpa [Lit.sameKey] using hf
      rw [this]; exact hpre
    clear hP6 hG6 hR6 cpx hpre hrg5 hrg c0 c1 f1
    go_wp2_with fail
    refine wp_region_held_drew (S := fun W => W.cell? ⟨g, 0, none⟩ = some (.string s) ∧ W.cell? ⟨g, 1, none⟩ = some (.int .i64 (p : Int))) (by kernel_rfl) (And.intro j0 j1) (fun hHeld => ?_)
    refine tkr 0 rfl ?_
    try simp only [nrm, Act.put]
    refine tkr 1 rfl ?_
    try simp only [nrm, Act.put]
    refine tkr 2 rfl ?_
    try simp only [nrm, Act.put]
    refine tkr 3 rfl ?_
    try simp only [nrm, Act.put]
    refine tkr 4 rfl ?_
    try simp only [nrm, Act.put]
    refine tkr 5 rfl ?_
    try simp only [nrm, Act.put]
    refine tkr 6 rfl ?_
    try simp only [nrm, Act.put]
    refine tkr 7 rfl ?_
    try simp only [nrm, Act.put]
    refine tkr 8 rfl ?_
    try simp only [nrm, Act.put]
    refine tkr 9 rfl ?_
    try simp only [nrm, Act.put]
    refine rd1 10 rfl fun K hK => ?_
    go_simp
    go_at_call 135
    with_reducible refine (CPX.out _).mono ?_
    rintro _ w9 ⟨rfl, rfl⟩
    refine hK.out _ _ (And.intro j0 j1) (fun hHeld => ?_)
    clear hK K
    try simp only [nrm, Act.put]
    refine wpAnyH_done (by kernel_rfl) ?_ _
    clear hHeld
    go_wp2_with fail
    refine ⟨⟨(fun z => left z && !z.sameKey (.string nullL)), cnt5, HR6.out.kept (row := none) (below_row (Below.refl _ _).drew none) (by simp) (by simp), HP6.out, grown_dn HG6.out 1, hin6, hout6⟩, ?_⟩
    have hR7 := HR6.out.kept (row := none) (below_row (Below.refl _ _).drew none) (by simp) (by simp)
    rw [HRL.out]
    have := hR7.left_eq
    rw [this]
    exact hlt5
   ·
    rw [hpre] at cpx
    have CPX := Lib.hid cpx
    have hv : Hid (nameR (s.data.toList.drop p) = (.value 1 false, s.data.toList.drop (p + 4))) := by
     show _ = _
     have h1 : [110, 117, 108, 108].isPrefixOf (s.data.toList.drop p) = true := hpre
     rw [nameR, if_pos h1, List.drop_drop]
    have hlen : p + 4 ≤ s.size := by
     have h1 := (List.isPrefixOf_iff_prefix.1 (show List.isPrefixOf _ _ = true from hpre)).length_le
     rw [List.length_drop] at h1
     have h2 : s.data.toList.length = s.size := by simp
     simp at h1
     omega
    have HQ : Hid ((p : Int) + 4 = ((p + 4 : Nat) : Int)) := by show _ = _; omega
    have hput := (show PAt ((w5.alloc (.cells #[.int .i64 1, .bool false, .int .i64 0, .string ⟨#[]⟩, .slice none 0 0, .slice none 0 0] 26)).drew) g s p from HP6.out).put (p + 4) (by omega)
    rw [← HQ.out] at hput
    have HPP := Lib.hid hput.1
    have hg6d : w.grownBy ((w5.alloc (.cells #[.int .i64 1, .bool false, .int .i64 0, .string ⟨#[]⟩, .slice none 0 0, .slice none 0 0] 26)).drew) (some g) := grown_dn HG6.out 1
    have HGG := Lib.hid (grown_then hg6d hput.2 (fun q e => by injection e with e; exact .inl e.symm))
    have hsz5 : w.heap.size ≤ w5.heap.size := by have := hG.out.size; omega
    have hbx7 := Lib.hid ((hbx.out.drew).far (p := ⟨g, 1, none⟩) (by simp; omega) (.int .i64 ((p : Int) + 4)))
    clear hP6 hG6 hR6 cpx hpre hrg5 hrg c0 c1 f1 hput hg6d
    go_wp2_with fail
    refine wp_region_held_drew (S := fun W => W.cell? ⟨g, 0, none⟩ = some (.string s) ∧ W.cell? ⟨g, 1, none⟩ = some (.int .i64 (p : Int))) (by kernel_rfl) (And.intro j0 j1) (fun hHeld => ?_)
    refine tkr 0 rfl ?_
    try simp only [nrm, Act.put]
    refine tkr 1 rfl ?_
    try simp only [nrm, Act.put]
    refine tkr 2 rfl ?_
    try simp only [nrm, Act.put]
    refine tkr 3 rfl ?_
    try simp only [nrm, Act.put]
    refine tkr 4 rfl ?_
    try simp only [nrm, Act.put]
    refine tkr 5 rfl ?_
    try simp only [nrm, Act.put]
    refine tkr 6 rfl ?_
    try simp only [nrm, Act.put]
    refine tkr 7 rfl ?_
    try simp only [nrm, Act.put]
    refine tkr 8 rfl ?_
    try simp only [nrm, Act.put]
    refine tkr 9 rfl ?_
    try simp only [nrm, Act.put]
    refine rd1 10 rfl fun K hK => ?_
    go_simp
    go_at_call 135
    with_reducible refine (CPX.out _).mono ?_
    rintro _ w9 ⟨rfl, rfl⟩
    refine hK.out _ _ (And.intro j0 j1) (fun hHeld => ?_)
    clear hK K
    try simp only [nrm, Act.put]
    refine wpAnyH_done (by kernel_rfl) ?_ _
    clear hHeld
    go_wp2_with (refine wpList_load_at rfl 26 _ rfl ⟨w5.heap.size, 0, none⟩ rfl [.int .i64 1, .bool false, .int .i64 0, .string ⟨#[]⟩, .slice none 0 0, .slice none 0 0] _ (blk_cells hbx7.out) Tryz.underlying26 rfl jv_size ?_)
    go_ret
    exact ⟨p + 4, by rw [hv.out]; rfl, HPP.out, fun _ => by rw [hv.out], HGG.out⟩
  ·
   intro w5 cnt5 hl hrg5 hlt5 hg5 hs5 hen
   have hbx := Lib.hid (Blk.new w5 26 #[.int .i64 2, .bool true, .int .i64 0, .string ⟨#[]⟩, .slice none 0 0, .slice none 0 0])
   have hba := (Below.refl w5.heap.size w5).alloc (Nat.le_refl _) (.cells #[.int .i64 2, .bool true, .int .i64 0, .string ⟨#[]⟩, .slice none 0 0, .slice none 0 0] 26)
   have hP6 := (hP.out.grown hg5 (fun e => by injection e with e; omega)).below hba
   have hG6 := grown_below2 (grown_then hG.out hg5 (fun q e => by injection e with e; exact .inr (by omega))) hba
   have hR6 := hrg5.alloc (.cells #[.int .i64 2, .bool true, .int .i64 0, .string ⟨#[]⟩, .slice none 0 0, .slice none 0 0] 26)
   have hin6 : Hid (∀ q : List UInt8, (left (.string q) && !(Lit.string q).sameKey (.string trueL)) = true → q = nullL ∨ q = trueL ∨ q = falseL) := fun q hq => hin.out q (by simp only [Bool.and_eq_true] at hq; exact hq.1)
   obtain ⟨j0, j1, j2⟩ := hP6.facts
   have HP6 := Lib.hid hP6
   have HG6 := Lib.hid hG6
   have HR6 := Lib.hid hR6
   have cpx := fun W => Tryz.strings_HasPrefix (s.extract p s.size) ⟨#[116, 114, 117, 101]⟩ W
   rw [hex] at cpx
   cases hpre : Lib.hasPrefix (s.data.toList.drop p) (⟨#[116, 114, 117, 101]⟩ : ByteArray).data.toList
   ·
    rw [hpre] at cpx
    have CPX := Lib.hid cpx
    have hout6 : Hid (∀ q : List UInt8, (q = nullL ∨ q = trueL ∨ q = falseL) → (left (.string q) && !(Lit.string q).sameKey (.string trueL)) = false → q.isPrefixOf (s.data.toList.drop p) = false) := fun q hq hf => by
     rw [Bool.and_eq_false_iff] at hf
     rcases hf with hf | hf
     ·
      exact hout.out q hq hf
     ·
      have : q = trueL := by simpa [Lit.sameKey] using hf
      rw [this]; exact hpre
    clear hP6 hG6 hR6 cpx hpre hrg5 hrg c0 c1 f1
    go_wp2_with fail
    refine wp_region_held_drew (S := fun W => W.cell? ⟨g, 0, none⟩ = some (.string s) ∧ W.cell? ⟨g, 1, none⟩ = some (.int .i64 (p : Int))) (by kernel_rfl) (And.intro j0 j1) (fun hHeld => ?_)
    refine tkr 0 rfl ?_
    try simp only [nrm, Act.put]
    refine tkr 1 rfl ?_
    try simp only [nrm, Act.put]
    refine tkr 2 rfl ?_
    try simp only [nrm, Act.put]
    refine tkr 3 rfl ?_
    try simp only [nrm, Act.put]
    refine tkr 4 rfl ?_
    try simp only [nrm, Act.put]
    refine tkr 5 rfl ?_
    try simp only [nrm, Act.put]
    refine tkr 6 rfl ?_
    try simp only [nrm, Act.put]
    refine tkr 7 rfl ?_
    try simp only [nrm, Act.put]
    refine tkr 8 rfl ?_
    try simp only [nrm, Act.put]
    refine tkr 9 rfl ?_
    try simp only [nrm, Act.put]
    refine rd1 10 rfl fun K hK => ?_
    go_simp
    go_at_call 135
    with_reducible refine (CPX.out _).mono ?_
    rintro _ w9 ⟨rfl, rfl⟩
    refine hK.out _ _ (And.intro j0 j1) (fun hHeld => ?_)
    clear hK K
    try simp only [nrm, Act.put]
    refine wpAnyH_done (by kernel_rfl) ?_ _
    clear hHeld
    go_wp2_with fail
    refine ⟨⟨(fun z => left z && !z.sameKey (.string trueL)), cnt5, HR6.out.kept (row := none) (below_row (Below.refl _ _).drew none) (by simp) (by simp), HP6.out, grown_dn HG6.out 1, hin6, hout6⟩, ?_⟩
    have hR7 := HR6.out.kept (row := none) (below_row (Below.refl _ _).drew none) (by simp) (by simp)
    rw [HRL.out]
    have := hR7.left_eq
    rw [this]
    exact hlt5
   ·
    rw [hpre] at cpx
    have CPX := Lib.hid cpx
    have hv : Hid (nameR (s.data.toList.drop p) = (.value 2 true, s.data.toList.drop (p + 4))) := by
     show _ = _
     have h1 : [116, 114, 117, 101].isPrefixOf (s.data.toList.drop p) = true := hpre
     have n1 : ¬ [110, 117, 108, 108].isPrefixOf (s.data.toList.drop p) = true := fun h => by
      obtain ⟨a, ha⟩ := List.isPrefixOf_iff_prefix.1 h
      obtain ⟨b, hb⟩ := List.isPrefixOf_iff_prefix.1 h1
      rw [← ha] at hb
      injection hb with e _
      exact absurd e (by decide)
     rw [nameR, if_neg n1, if_pos h1, List.drop_drop]
    have hlen : p + 4 ≤ s.size := by
     have h1 := (List.isPrefixOf_iff_prefix.1 (show List.isPrefixOf _ _ = true from hpre)).length_le
     rw [List.length_drop] at h1
     have h2 : s.data.toList.length = s.size := by simp
     simp at h1
     omega
    have HQ : Hid ((p : Int) + 4 = ((p + 4 : Nat) : Int)) := by show _ = _; omega
    have hput := (show PAt ((w5.alloc (.cells #[.int .i64 2, .bool true, .int .i64 0, .string ⟨#[]⟩, .slice none 0 0, .slice none 0 0] 26)).drew) g s p from HP6.out).put (p + 4) (by omega)
    rw [← HQ.out] at hput
    have HPP := Lib.hid hput.1
    have hg6d : w.grownBy ((w5.alloc (.cells #[.int .i64 2, .bool true, .int .i64 0, .string ⟨#[]⟩, .slice none 0 0, .slice none 0 0] 26)).drew) (some g) := grown_dn HG6.out 1
    have HGG := Lib.hid (grown_then hg6d hput.2 (fun q e => by injection e with e; exact .inl e.symm))
    have hsz5 : w.heap.size ≤ w5.heap.size := by have := hG.out.size; omega
    have hbx7 := Lib.hid ((hbx.out.drew).far (p := ⟨g, 1, none⟩) (by simp; omega) (.int .i64 ((p : Int) + 4)))
    clear hP6 hG6 hR6 cpx hpre hrg5 hrg c0 c1 f1 hput hg6d
    go_wp2_with fail
    refine wp_region_held_drew (S := fun W => W.cell? ⟨g, 0, none⟩ = some (.string s) ∧ W.cell? ⟨g, 1, none⟩ = some (.int .i64 (p : Int))) (by kernel_rfl) (And.intro j0 j1) (fun hHeld => ?_)
    refine tkr 0 rfl ?_
    try simp only [nrm, Act.put]
    refine tkr 1 rfl ?_
    try simp only [nrm, Act.put]
    refine tkr 2 rfl ?_
    try simp only [nrm, Act.put]
    refine tkr 3 rfl ?_
    try simp only [nrm, Act.put]
    refine tkr 4 rfl ?_
    try simp only [nrm, Act.put]
    refine tkr 5 rfl ?_
    try simp only [nrm, Act.put]
    refine tkr 6 rfl ?_
    try simp only [nrm, Act.put]
    refine tkr 7 rfl ?_
    try simp only [nrm, Act.put]
    refine tkr 8 rfl ?_
    try simp only [nrm, Act.put]
    refine tkr 9 rfl ?_
    try simp only [nrm, Act.put]
    refine rd1 10 rfl fun K hK => ?_
    go_simp
    go_at_call 135
    with_reducible refine (CPX.out _).mono ?_
    rintro _ w9 ⟨rfl, rfl⟩
    refine hK.out _ _ (And.intro j0 j1) (fun hHeld => ?_)
    clear hK K
    try simp only [nrm, Act.put]
    refine wpAnyH_done (by kernel_rfl) ?_ _
    clear hHeld
    go_wp2_with (refine wpList_load_at rfl 26 _ rfl ⟨w5.heap.size, 0, none⟩ rfl [.int .i64 2, .bool true, .int .i64 0, .string ⟨#[]⟩, .slice none 0 0, .slice none 0 0] _ (blk_cells hbx7.out) Tryz.underlying26 rfl jv_size ?_)
    go_ret
    exact ⟨p + 4, by rw [hv.out]; rfl, HPP.out, fun _ => by rw [hv.out], HGG.out⟩
  ·
   intro w5 cnt5 hl hrg5 hlt5 hg5 hs5 hen
   have hbx := Lib.hid (Blk.new w5 26 #[.int .i64 2, .bool false, .int .i64 0, .string ⟨#[]⟩, .slice none 0 0, .slice none 0 0])
   have hba := (Below.refl w5.heap.size w5).alloc (Nat.le_refl _) (.cells #[.int .i64 2, .bool false, .int .i64 0, .string ⟨#[]⟩, .slice none 0 0, .slice none 0 0] 26)
   have hP6 := (hP.out.grown hg5 (fun e => by injection e with e; omega)).below hba
   have hG6 := grown_below2 (grown_then hG.out hg5 (fun q e => by injection e with e; exact .inr (by omega))) hba
   have hR6 := hrg5.alloc (.cells #[.int .i64 2, .bool false, .int .i64 0, .string ⟨#[]⟩, .slice none 0 0, .slice none 0 0] 26)
   have hin6 : Hid (∀ q : List UInt8, (left (.string q) && !(Lit.string q).sameKey (.string falseL)) = true → q = nullL ∨ q = trueL ∨ q = falseL) := fun q hq => hin.out q (by simp only [Bool.and_eq_true] at hq; exact hq.1)
   obtain ⟨j0, j1, j2⟩ := hP6.facts
   have HP6 := Lib.hid hP6
   have HG6 := Lib.hid hG6
   have HR6 := Lib.hid hR6
   have cpx := fun W => Tryz.strings_HasPrefix (s.extract p s.size) ⟨#[102, 97, 108, 115, 101]⟩ W
   rw [hex] at cpx
   cases hpre : Lib.hasPrefix (s.data.toList.drop p) (⟨#[102, 97, 108, 115, 101]⟩ : ByteArray).data.toList
   ·
    rw [hpre] at cpx
    have CPX := Lib.hid cpx
    have hout6 : Hid (∀ q : List UInt8, (q = nullL ∨ q = trueL ∨ q = falseL) → (left (.string q) && !(Lit.string q).sameKey (.string falseL)) = false → q.isPrefixOf (s.data.toList.drop p) = false) := fun q hq hf => by
     rw [Bool.and_eq_false_iff] at hf
     rcases hf with hf | hf
     ·
      exact hout.out q hq hf
     ·
      have : q = falseL := by simpa [Lit.sameKey] using hf
      rw [this]; exact hpre
    clear hP6 hG6 hR6 cpx hpre hrg5 hrg c0 c1 f1
    go_wp2_with fail
    refine wp_region_held_drew (S := fun W => W.cell? ⟨g, 0, none⟩ = some (.string s) ∧ W.cell? ⟨g, 1, none⟩ = some (.int .i64 (p : Int))) (by kernel_rfl) (And.intro j0 j1) (fun hHeld => ?_)
    refine tkr 0 rfl ?_
    try simp only [nrm, Act.put]
    refine tkr 1 rfl ?_
    try simp only [nrm, Act.put]
    refine tkr 2 rfl ?_
    try simp only [nrm, Act.put]
    refine tkr 3 rfl ?_
    try simp only [nrm, Act.put]
    refine tkr 4 rfl ?_
    try simp only [nrm, Act.put]
    refine tkr 5 rfl ?_
    try simp only [nrm, Act.put]
    refine tkr 6 rfl ?_
    try simp only [nrm, Act.put]
    refine tkr 7 rfl ?_
    try simp only [nrm, Act.put]
    refine tkr 8 rfl ?_
    try simp only [nrm, Act.put]
    refine tkr 9 rfl ?_
    try simp only [nrm, Act.put]
    refine rd1 10 rfl fun K hK => ?_
    go_simp
    go_at_call 135
    with_reducible refine (CPX.out _).mono ?_
    rintro _ w9 ⟨rfl, rfl⟩
    refine hK.out _ _ (And.intro j0 j1) (fun hHeld => ?_)
    clear hK K
    try simp only [nrm, Act.put]
    refine wpAnyH_done (by kernel_rfl) ?_ _
    clear hHeld
    go_wp2_with fail
    refine ⟨⟨(fun z => left z && !z.sameKey (.string falseL)), cnt5, HR6.out.kept (row := none) (below_row (Below.refl _ _).drew none) (by simp) (by simp), HP6.out, grown_dn HG6.out 1, hin6, hout6⟩, ?_⟩
    have hR7 := HR6.out.kept (row := none) (below_row (Below.refl _ _).drew none) (by simp) (by simp)
    rw [HRL.out]
    have := hR7.left_eq
    rw [this]
    exact hlt5
   ·
    rw [hpre] at cpx
    have CPX := Lib.hid cpx
    have hv : Hid (nameR (s.data.toList.drop p) = (.value 2 false, s.data.toList.drop (p + 5))) := by
     show _ = _
     have h1 : [102, 97, 108, 115, 101].isPrefixOf (s.data.toList.drop p) = true := hpre
     have n1 : ¬ [110, 117, 108, 108].isPrefixOf (s.data.toList.drop p) = true := fun h => by
      obtain ⟨a, ha⟩ := List.isPrefixOf_iff_prefix.1 h
      obtain ⟨b, hb⟩ := List.isPrefixOf_iff_prefix.1 h1
      rw [← ha] at hb
      injection hb with e _
      exact absurd e (by decide)
     have n2 : ¬ [116, 114, 117, 101].isPrefixOf (s.data.toList.drop p) = true := fun h => by
      obtain ⟨a, ha⟩ := List.isPrefixOf_iff_prefix.1 h
      obtain ⟨b, hb⟩ := List.isPrefixOf_iff_prefix.1 h1
      rw [← ha] at hb
      injection hb with e _
      exact absurd e (by decide)
     rw [nameR, if_neg n1, if_neg n2, if_pos h1, List.drop_drop]
    have hlen : p + 5 ≤ s.size := by
     have h1 := (List.isPrefixOf_iff_prefix.1 (show List.isPrefixOf _ _ = true from hpre)).length_le
     rw [List.length_drop] at h1
     have h2 : s.data.toList.length = s.size := by simp
     simp at h1
     omega
    have HQ : Hid ((p : Int) + 5 = ((p + 5 : Nat) : Int)) := by show _ = _; omega
    have hput := (show PAt ((w5.alloc (.cells #[.int .i64 2, .bool false, .int .i64 0, .string ⟨#[]⟩, .slice none 0 0, .slice none 0 0] 26)).drew) g s p from HP6.out).put (p + 5) (by omega)
    rw [← HQ.out] at hput
    have HPP := Lib.hid hput.1
    have hg6d : w.grownBy ((w5.alloc (.cells #[.int .i64 2, .bool false, .int .i64 0, .string ⟨#[]⟩, .slice none 0 0, .slice none 0 0] 26)).drew) (some g) := grown_dn HG6.out 1
    have HGG := Lib.hid (grown_then hg6d hput.2 (fun q e => by injection e with e; exact .inl e.symm))
    have hsz5 : w.heap.size ≤ w5.heap.size := by have := hG.out.size; omega
    have hbx7 := Lib.hid ((hbx.out.drew).far (p := ⟨g, 1, none⟩) (by simp; omega) (.int .i64 ((p : Int) + 5)))
    clear hP6 hG6 hR6 cpx hpre hrg5 hrg c0 c1 f1 hput hg6d
    go_wp2_with fail
    refine wp_region_held_drew (S := fun W => W.cell? ⟨g, 0, none⟩ = some (.string s) ∧ W.cell? ⟨g, 1, none⟩ = some (.int .i64 (p : Int))) (by kernel_rfl) (And.intro j0 j1) (fun hHeld => ?_)
    refine tkr 0 rfl ?_
    try simp only [nrm, Act.put]
    refine tkr 1 rfl ?_
    try simp only [nrm, Act.put]
    refine tkr 2 rfl ?_
    try simp only [nrm, Act.put]
    refine tkr 3 rfl ?_
    try simp only [nrm, Act.put]
    refine tkr 4 rfl ?_
    try simp only [nrm, Act.put]
    refine tkr 5 rfl ?_
    try simp only [nrm, Act.put]
    refine tkr 6 rfl ?_
    try simp only [nrm, Act.put]
    refine tkr 7 rfl ?_
    try simp only [nrm, Act.put]
    refine tkr 8 rfl ?_
    try simp only [nrm, Act.put]
    refine tkr 9 rfl ?_
    try simp only [nrm, Act.put]
    refine rd1 10 rfl fun K hK => ?_
    go_simp
    go_at_call 135
    with_reducible refine (CPX.out _).mono ?_
    rintro _ w9 ⟨rfl, rfl⟩
    refine hK.out _ _ (And.intro j0 j1) (fun hHeld => ?_)
    clear hK K
    try simp only [nrm, Act.put]
    refine wpAnyH_done (by kernel_rfl) ?_ _
    clear hHeld
    go_wp2_with (refine wpList_load_at rfl 26 _ rfl ⟨w5.heap.size, 0, none⟩ rfl [.int .i64 2, .bool false, .int .i64 0, .string ⟨#[]⟩, .slice none 0 0, .slice none 0 0] _ (blk_cells hbx7.out) Tryz.underlying26 rfl jv_size ?_)
    go_ret
    exact ⟨p + 5, by rw [hv.out]; rfl, HPP.out, fun _ => by rw [hv.out], HGG.out⟩
end Go.Proofs.YtieppmppdmcleaaGreatDoor
