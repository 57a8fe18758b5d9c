/- countersignlaw12.Text, known; values off the tape at any depth; from what a row lays to what the walks ask for. Conditions: the laid variables. -/
import Derived.Test.YtokgkifckgnabaaGreatDoorLc
import Derived.Test.YtokgkifckgnabaaGreatDoorM6
import Derived.Test.YtokgkifckgnabaaGreatDoorRows
import Derived.Lib.LaidU8
import Derived.Lib.LaidTab
import Derived.ChangeVars
set_option linter.unusedVariables false
set_option linter.unusedSimpArgs false
set_option maxRecDepth 20000
namespace Go.Proofs.YtokgkifckgnabaaGreatDoor
section
open Go.RowKit Go.Maps
theorem tape_any : ∀ d, d ≤ 100 → TapeV d
  | 0, h => value_tape 0 h (fun d' e => by omega)
  | d + 1, h => value_tape (d + 1) h (fun d' e => by
    obtain rfl : d' = d := by omega
    exact tape_any d' (by omega))
theorem tape_new {w : World} {A : Option Addr} {c : Nat} {zs : List Int} (h : IntsIn w A c zs) :
    TapeAt (w.alloc (.cells #[.slice A zs.length c, .int .i64 0] 31)) w.heap.size zs 0 :=
  ⟨Nat.zero_le _, h.2.1, h.2.2.1, A, c, h.1, Blk.new _ _ _, h.2.2.2.alloc (Nat.le_refl _) _⟩
def textL12 : List ByteArray := [⟨#[123]⟩, ⟨#[125]⟩, ⟨#[91]⟩, ⟨#[93]⟩, ⟨#[44]⟩, ⟨#[58]⟩, ⟨#[34, 97, 34]⟩, ⟨#[34, 98, 34, 58, 49]⟩, ⟨#[49]⟩, ⟨#[48]⟩, ⟨#[45]⟩, ⟨#[45, 51]⟩, ⟨#[48, 49]⟩, ⟨#[110, 117, 108, 108]⟩, ⟨#[116, 114, 117, 101]⟩, ⟨#[102, 97, 108, 115, 101]⟩, ⟨#[116, 114, 117]⟩, ⟨#[32]⟩, ⟨#[10]⟩, ⟨#[34]⟩, ⟨#[92, 117, 48, 48, 52, 49]⟩, ⟨#[34, 92, 117, 48, 48, 49, 102, 34]⟩, ⟨#[34, 92, 110, 34]⟩, ⟨#[34, 255, 34]⟩, ⟨#[34, 195, 169, 34]⟩, ⟨#[57, 48, 48, 55, 49, 57, 57, 50, 53, 52, 55, 52, 48, 57, 57, 50]⟩, ⟨#[57, 48, 48, 55, 49, 57, 57, 50, 53, 52, 55, 52, 48, 57, 57, 51]⟩, ⟨#[49, 101, 53]⟩, ⟨#[34, 97, 34, 58]⟩]
theorem getD_size {L : List ByteArray} {n : Nat} (h : ∀ x ∈ L, x.size ≤ n) (r : Nat) : (L.getD r ByteArray.empty).size ≤ n := by
  rw [List.getD_eq_getElem?_getD]
  cases e : L[r]? with
  | none => simp
  | some x => exact h x (List.mem_of_getElem? e)
set_option maxHeartbeats 4000000 in
theorem text12_walk (zs : List Int) (A : Option Addr) (c : Nat) (most : Nat) (hm : most ≤ 1000) (w : World) (hr : IntsIn w A c zs) :
    Calls Tryz.prog 9 #[.slice A zs.length c, .int .i64 most] w fun e w' => ∃ s : ByteArray, s.size ≤ 16 * most ∧ e = .returned (.string s) ∧ Below w.heap.size w w' := by
  have HT := Lib.hid (tape_new hr)
  clear hr
  go_enter Tryz.func9, Tryz.ntmps9
  go_wp2_with fail
  go_loopw [6, 7] (fun sv nv wr => ∃ (i k : Nat) (s : ByteArray), i ≤ most ∧ nv = .int .i64 i ∧ sv = .string s ∧ s.size ≤ 16 * i ∧ Hid (TapeAt wr w.heap.size zs k) ∧ Hid (Below w.heap.size w wr)) (fun _ nv _ => most - (intOf nv).toNat)
  case atStart => exact ⟨0, 0, ⟨#[]⟩, by omega, rfl, rfl, by decide, HT, (Below.refl _ _).alloc (Nat.le_refl _) _⟩
  case round =>
    clear HT
    obtain ⟨i, k, s, hi, rfl, rfl, hs, hT, hB⟩ := hrel
    have cm := Lib.hid (more_walk zs w.heap.size k wr hT.out)
    by_cases hlt : i < most
    · by_cases hk : k < zs.length
      · rw [show decide (k < zs.length) = true by simpa using hk] at cm
        have hgl := hT.out.lt
        go_wp2_with fail
        refine cm.out.mono ?_
        rintro _ w1 ⟨rfl, q, rfl⟩
        go_wp2_with fail
        refine (pick_walk zs w.heap.size k _ 29 ((wr.drewN q).heap.size + 1) textL12 (by decide) (by decide) (by decide) _ ?ht ?hr ?hB ?hne).mono ?_
        case ht => exact (hT.out.drewN q).grown (only_alloc (only_refl _ none) _) (fun r e => by cases e)
        case hr => exact reads_row (wr.drewN q) 9 (textL12.map Value.string)
        case hB => simp
        case hne => intro p e; injection e with e; subst e; simp; omega
        have hx := getD_size (L := textL12) (n := 16) (by decide) (nextR zs k textL12.length).toNat
        generalize textL12.getD (nextR zs k textL12.length).toNat ByteArray.empty = x at hx
        rintro _ w2 ⟨rfl, ht2, hg2, hs2⟩
        generalize nextA zs k textL12.length = k2 at ht2
        have HB2 := Lib.hid (((below_drewN hB.out q).alloc hB.out.size _).grown hg2 (by have := hB.out.size; simp; omega) (fun r e => by injection e with e; omega))
        have HT2 := Lib.hid ht2
        clear ht2 hg2 hs2 hT hB cm
        go_wp2_with fail
        exact ⟨⟨i + 1, k2, _, by omega, by go_num, rfl, by rw [ByteArray.size_append]; omega, HT2, HB2⟩, by simp [intOf]; omega⟩
      · rw [show decide (k < zs.length) = false by simpa using hk] at cm
        go_wp2_with fail
        refine cm.out.mono ?_
        rintro _ w1 ⟨rfl, q, rfl⟩
        go_wp2_with fail
        go_ret
        exact ⟨s, by omega, rfl, below_drewN hB.out q⟩
    · go_wp2_with fail
      go_ret
      exact ⟨s, by omega, rfl, hB.out⟩
end
section
open Go.RowKit Go.Maps
def knV : Jv := .mk 6 false 0 [] [[97], [98]] [.mk 3 false 1 [] [] [], .mk 4 false 0 [120] [] []]
theorem itoa_one : Lib.itoa 1 = [49] := by rw [Lib.itoa, if_neg (by decide), Lib.decDigits, dif_pos (by decide)]; rfl
theorem word_one (r : List UInt8) (hr : okR r) : wordR (49 :: r) = (.number 1, r) := by
  have := wordR_int 1 (by decide) (by decide) r hr
  rw [itoa_one] at this
  exact this
theorem word_str (s r l : List UInt8) (hv : validL s = true) (hl : quotedL s ++ r = l) : wordR l = (.phrase s, r) := by rw [← hl]; exact wordR_text s hv r
theorem kn_v : parseL [123, 34, 97, 34, 58, 32, 49, 44, 32, 34, 98, 34, 58, 34, 120, 34, 125] = (0, knV) := by
  have w1 : wordR [123, 34, 97, 34, 58, 32, 49, 44, 32, 34, 98, 34, 58, 34, 120, 34, 125] = (.mark 123, [34, 97, 34, 58, 32, 49, 44, 32, 34, 98, 34, 58, 34, 120, 34, 125]) := wordR_mk _ (by decide +kernel)
  have w2 : wordR [34, 97, 34, 58, 32, 49, 44, 32, 34, 98, 34, 58, 34, 120, 34, 125] = (.phrase [97], [58, 32, 49, 44, 32, 34, 98, 34, 58, 34, 120, 34, 125]) := word_str [97] _ _ (by decide +kernel) (by decide +kernel)
  have w3 : wordR [58, 32, 49, 44, 32, 34, 98, 34, 58, 34, 120, 34, 125] = (.mark 58, [32, 49, 44, 32, 34, 98, 34, 58, 34, 120, 34, 125]) := wordR_mk _ (by decide +kernel)
  have w4 : wordR [32, 49, 44, 32, 34, 98, 34, 58, 34, 120, 34, 125] = (.number 1, [44, 32, 34, 98, 34, 58, 34, 120, 34, 125]) := by rw [wordR_blank _ (by decide +kernel), word_one _ (okR_cons (by decide +kernel))]
  have w5 : wordR [44, 32, 34, 98, 34, 58, 34, 120, 34, 125] = (.mark 44, [32, 34, 98, 34, 58, 34, 120, 34, 125]) := wordR_mk _ (by decide +kernel)
  have w6 : wordR [32, 34, 98, 34, 58, 34, 120, 34, 125] = (.phrase [98], [58, 34, 120, 34, 125]) := by rw [wordR_blank _ (by decide +kernel)]; exact word_str [98] _ _ (by decide +kernel) (by decide +kernel)
  have w7 : wordR [58, 34, 120, 34, 125] = (.mark 58, [34, 120, 34, 125]) := wordR_mk _ (by decide +kernel)
  have w8 : wordR [34, 120, 34, 125] = (.phrase [120], [125]) := word_str [120] _ _ (by decide +kernel) (by decide +kernel)
  have w9 : wordR [125] = (.mark 125, []) := wordR_mk _ (by decide +kernel)
  unfold parseL
  rw [w1, valW, if_pos (.inr rfl)]
  simp only [show ¬ ((123 : UInt8) = 91) by decide, if_false]
  unfold objR
  rw [w2]
  simp only [List.length_cons, List.length_nil, loopO]
  simp [w3, w4, w5, w6, w7, w8, w9, valW, loopO]
  rfl
theorem kn_f : parseL [91, 49, 44, 93] = (3, jvZ) := by
  have w1 : wordR [91, 49, 44, 93] = (.mark 91, [49, 44, 93]) := wordR_mk _ (by decide +kernel)
  have w2 : wordR [49, 44, 93] = (.number 1, [44, 93]) := word_one _ (okR_cons (by decide +kernel))
  have w3 : wordR [44, 93] = (.mark 44, [93]) := wordR_mk _ (by decide +kernel)
  have w4 : wordR [93] = (.mark 93, []) := wordR_mk _ (by decide +kernel)
  unfold parseL
  rw [w1, valW, if_pos (.inl rfl)]
  simp only [if_true]
  unfold listR
  rw [w2]
  simp [loopL, w3, w4, valW]
theorem kn_may : mayB knV = true := by decide +kernel
theorem kn_sm : smJ knV := smJ_of_may knV 0 kn_may (by decide)
theorem kn_sz : szJ knV ≤ 100000 := by decide
theorem kn_print : printJ knV = [123, 34, 97, 34, 58, 49, 44, 34, 98, 34, 58, 34, 120, 34, 125] := by
  rw [printJ, if_pos kn_may]
  simp only [knV, jprint, jprintO, itoa_one]
  decide +kernel
theorem kn_text : textJ knV [98] = some [120] := by decide +kernel
theorem kn_get : getJ knV [97] = some (.mk 3 false 1 [] [] []) := by rfl
theorem LaidB.up {w : World} {B : Nat} (h : LaidB w B) : LaidB w w.heap.size := by
  obtain ⟨h1, ⟨a, b, c⟩, h3⟩ := h
  exact ⟨Nat.le_refl _, ⟨by omega, by omega, by omega⟩, h3⟩
/-- a value in a block, and what is laid -/
structure Val1 (w : World) (g : Nat) (v : Jv) (cs : List Value) (W : World) : Prop where
  blk : Blk W g 27 cs.toArray
  val : JvV W 0 v cs
theorem Val1.below {w : World} {g : Nat} {v : Jv} {cs : List Value} {W W' : World} (h : Val1 w g v cs W) (hb : Below W.heap.size W W') : Val1 w g v cs W' := ⟨h.blk.below hb h.blk.lt, h.val.below hb⟩
theorem Val1.new {w W : World} {v : Jv} {cs : List Value} {lo : Nat} (h : JvV W lo v cs) : Val1 w W.heap.size v cs (W.alloc (.cells cs.toArray 27)) :=
  ⟨Blk.new W _ _, (h.low (Nat.zero_le _)).below ((Below.refl W.heap.size W).alloc (Nat.le_refl _) _)⟩
structure St12 (w W : World) : Prop where
  laid : LaidB W W.heap.size
  below : Below w.heap.size w W
theorem St12.next {w W W' : World} (h : St12 w W) (hb : Below W.heap.size W W') : St12 w W' := ⟨(h.laid.below hb).up, below_next h.below hb⟩
theorem St12.alloc {w W : World} (h : St12 w W) (o : Obj) : St12 w (W.alloc o) := h.next ((Below.refl W.heap.size W).alloc (Nat.le_refl _) o)
theorem alloc_below (W : World) (o : Obj) : Below W.heap.size W (W.alloc o) := (Below.refl W.heap.size W).alloc (Nat.le_refl _) o
set_option maxHeartbeats 16000000 in
theorem known12_walk (w : World) (hL : LaidB w w.heap.size) : Calls Tryz.prog 5 #[] w fun e w' => e = .returned (.bool true) ∧ St12 w w' := by
  have cp := Lib.hid (parse_walk ⟨#[123, 34, 97, 34, 58, 32, 49, 44, 32, 34, 98, 34, 58, 34, 120, 34, 125]⟩ _ rfl (by decide) w hL)
  have HL := Lib.hid hL
  clear hL
  go_enter Tryz.func5, Tryz.ntmps5
  go_wp2_with fail
  refine cp.out.mono ?_
  rintro _ w1 ⟨cs, rfl, hv, hb⟩
  rw [kn_v] at hv ⊢
  obtain ⟨k, b, n, st, NA, nn, nc, A, m, c, rfl⟩ := hv.form
  obtain ⟨e1, e2, e3⟩ : k = 6 ∧ b = false ∧ n = 0 := by
    rw [knV, JvV] at hv
    obtain ⟨_, _, _, _, _, h, _⟩ := hv
    injection h with h1 h
    injection h1 with _ h1
    injection h with h2 h
    injection h2 with h2
    injection h with h3 h
    injection h3 with _ h3
    exact ⟨h1, h2, h3⟩
  subst e1 e2 e3
  have HV := Lib.hid (Val1.new (w := w) hv)
  have HS := Lib.hid (St12.alloc (St12.next (⟨HL.out, Below.refl _ _⟩ : St12 w w) hb) (.cells #[.int .i64 6, .bool false, .int .i64 0, .string st, .slice NA nn nc, .slice A m c] 27))
  have hw1 : w1.heap.size = w1.heap.size := rfl
  clear hv hb HL cp hw1
  simp only
  go_wp2_with fail
  generalize hg1 : w1.heap.size = g1 at HV ⊢
  generalize w1.alloc (.cells #[.int .i64 6, .bool false, .int .i64 0, .string st, .slice NA nn nc, .slice A m c] 27) = W1 at HV HS ⊢
  clear hg1 w1
  refine (parse_walk ⟨#[91, 49, 44, 93]⟩ _ rfl (by decide) _ HS.out.laid).mono ?_
  rintro _ w2 ⟨cs2, rfl, hv2, hb2⟩
  rw [kn_f] at hv2 ⊢
  obtain ⟨k2, b2, n2, st2, NA2, nn2, nc2, A2, m2, c2, rfl⟩ := hv2.form
  have HV2 := Lib.hid ((HV.out.below hb2).below (alloc_below w2 (.cells #[.int .i64 k2, .bool b2, .int .i64 n2, .string st2, .slice NA2 nn2 nc2, .slice A2 m2 c2] 27)))
  have HS2 := Lib.hid ((HS.out.next hb2).alloc (.cells #[.int .i64 k2, .bool b2, .int .i64 n2, .string st2, .slice NA2 nn2 nc2, .slice A2 m2 c2] 27))
  clear hv2 hb2 HV HS
  obtain ⟨l0, l1, l2, l3, l4, l5⟩ := six_cells HV2.out.blk
  simp only
  go_wp2_with (refine wpList_load_at rfl 27 _ rfl ⟨g1, 0, none⟩ rfl [.int .i64 6, .bool false, .int .i64 0, .string st, .slice NA nn nc, .slice A m c] _ (blk_cells HV2.out.blk) Tryz.underlying27 rfl jv_size ?_)
  generalize w2.heap.size = g2 at *
  generalize w2.alloc (.cells #[.int .i64 k2, .bool b2, .int .i64 n2, .string st2, .slice NA2 nn2 nc2, .slice A2 m2 c2] 27) = W2 at HV2 HS2 l0 l1 l2 l3 l4 l5 ⊢
  refine (text_walk knV _ [98] W2 kn_sm HV2.out.val).mono ?_
  rintro _ W3 ⟨rfl, hb3⟩
  rw [kn_text]
  have HV3 := Lib.hid (HV2.out.below hb3)
  have HS3 := Lib.hid (HS2.out.next hb3)
  clear hb3 HV2 HS2 l0 l1 l2 l3 l4 l5
  obtain ⟨l0, l1, l2, l3, l4, l5⟩ := six_cells HV3.out.blk
  simp only [Option.getD_some, Option.isSome_some, strV]
  go_wp2_with (refine wpList_load_at rfl 27 _ rfl ⟨g1, 0, none⟩ rfl [.int .i64 6, .bool false, .int .i64 0, .string st, .slice NA nn nc, .slice A m c] _ (blk_cells HV3.out.blk) Tryz.underlying27 rfl jv_size ?_)
  refine (get_walk knV _ [97] W3 kn_sm HV3.out.val).mono ?_
  rintro _ w4 ⟨cs4, rfl, hv4, hb4⟩
  rw [kn_get] at hv4 ⊢
  obtain ⟨NA4, nc4, A4, c4, vs4, rfl, -⟩ := (show JvV w4 0 (.mk 3 false 1 [] [] []) cs4 from hv4) |> fun h => by rw [JvV] at h; exact h
  simp only [cells6, List.length_nil, strV] at *
  have HV4 := Lib.hid ((HV3.out.below hb4).below (alloc_below w4 (.cells #[.int .i64 3, .bool false, .int .i64 1, .string ⟨#[]⟩, .slice NA4 0 nc4, .slice A4 0 c4] 27)))
  have HS4 := Lib.hid ((HS3.out.next hb4).alloc (.cells #[.int .i64 3, .bool false, .int .i64 1, .string ⟨#[]⟩, .slice NA4 0 nc4, .slice A4 0 c4] 27))
  have HN4 := Lib.hid (Blk.new w4 27 #[.int .i64 3, .bool false, .int .i64 1, .string ⟨#[]⟩, .slice NA4 0 nc4, .slice A4 0 c4])
  clear hv4 hb4 HV3 HS3 l0 l1 l2 l3 l4 l5
  obtain ⟨l0, l1, l2, l3, l4, l5⟩ := six_cells HV4.out.blk
  obtain ⟨-, -, n4, -, -, -⟩ := six_cells HN4.out
  simp only [Option.isSome_some]
  go_wp2_with fail
  generalize w4.heap.size = g4 at *
  generalize w4.alloc (.cells #[.int .i64 3, .bool false, .int .i64 1, .string ⟨#[]⟩, .slice NA4 0 nc4, .slice A4 0 c4] 27) = W4 at HV4 HS4 HN4 l0 l1 l2 l3 l4 l5 n4 ⊢
  refine (print_walk knV _ W4 kn_sm kn_sz HS4.out.laid.tab HV4.out.val).mono ?_
  rintro _ W5 ⟨rfl, hb5⟩
  rw [kn_print]
  have HV5 := Lib.hid (HV4.out.below hb5)
  have HS5 := Lib.hid (HS4.out.next hb5)
  clear hb5 HV4 HS4 HN4 l0 l1 l2 l3 l4 l5 n4
  obtain ⟨l0, l1, l2, l3, l4, l5⟩ := six_cells HV5.out.blk
  go_wp2_with fail
  refine (may_walk knV _ W5 kn_sm HV5.out.val).mono ?_
  rintro _ W6 ⟨rfl, hb6⟩
  rw [kn_may]
  have HV6 := Lib.hid (HV5.out.below hb6)
  have HS6 := Lib.hid (HS5.out.next hb6)
  clear hb6 HV5 HS5 l0 l1 l2 l3 l4 l5
  obtain ⟨l0, l1, l2, l3, l4, l5⟩ := six_cells HV6.out.blk
  go_wp2_with fail
  refine (same_all knV knV _ _ W6 HV6.out.val HV6.out.val).mono ?_
  rintro _ W7 ⟨rfl, hb7⟩
  rw [(sameJ_iff knV knV).2 rfl]
  have HS7 := Lib.hid (HS6.out.next hb7)
  clear hb7 HV6 HS6 l0 l1 l2 l3 l4 l5
  go_wp2_with fail
  go_ret
  exact ⟨rfl, HS7.out⟩
end
section
open Go.RowKit
theorem iface_of {H : Type} {enc : TypeId × Value → H} {P : Program} {w : World} {base : Nat} {sp : Nat → Bool} {fuel : Nat} {t : TypeId} {it : Array (String × TypeId)} {cs : List Value} {nm : String} {d : DataW H} {p : List MemPlace}
    (ht : P.underlying t = some (.interface it)) (h : DataW.trod enc P w base sp false fuel t cs = some (.iface nm d, p)) : ∃ u v, cs = [.iface u v] := by
  cases fuel with
  | zero => simp [DataW.trod] at h
  | succ fuel =>
    unfold DataW.trod at h
    rw [ht] at h
    split at h <;> first | (exact ⟨_, _, rfl⟩) | (simp_all; done)
theorem pow_data : (Rows.laid_internal_strconv_uint64pow10 : DataW Unit) = Lib.tabData .u64 Lib.pow10Tab := by kernel_rfl
theorem tab_type : (Tryz.prog.globals[3]?).map (·.type) = some 142 := by kernel_rfl
theorem tab_cells : Tryz.prog.cellsOf 128 = 1 ∧ Tryz.prog.cellsOf 142 = 20 := ⟨by kernel_rfl, by kernel_rfl⟩
theorem err_type : (Tryz.prog.globals[1]?).map (·.type) = some 96 ∧ (Tryz.prog.globals[2]?).map (·.type) = some 96 := ⟨by kernel_rfl, by kernel_rfl⟩
theorem tab_of {W : World} {l : List (String × DataW Unit)} (h : laidMet Tryz.prog l W) (hm : ("internal/strconv.uint64pow10", Rows.laid_internal_strconv_uint64pow10) ∈ l) : Tab W := by
  obtain ⟨g, t, cs, fuel, p, hg, ht, hvar, hd⟩ := Lib.laidMet.reads h hm
  obtain rfl := Option.some.inj (tab_named.symm.trans hg)
  obtain rfl := Option.some.inj (tab_type.symm.trans ht)
  rw [pow_data] at hd
  have hc := Lib.cells_of_tab Tryz.underlying142 Tryz.underlying128 tab_cells.1 tab_cells.2 hd
  show W.var? Tryz.prog "internal/strconv.uint64pow10" = _
  rw [hvar, ← hc]
theorem errS_of {W : World} {l : List (String × DataW Unit)} (h : laidMet Tryz.prog l W) (hm : ("strconv.ErrSyntax", Rows.laid_strconv_ErrSyntax) ∈ l) : ∃ tp p, W.var? Tryz.prog "strconv.ErrSyntax" = some #[.iface tp p] := by
  obtain ⟨g, t, cs, fuel, p, hg, ht, hvar, hd⟩ := Lib.laidMet.reads h hm
  obtain rfl := Option.some.inj (errS_named.symm.trans hg)
  obtain rfl := Option.some.inj (err_type.1.symm.trans ht)
  obtain ⟨u, v, e⟩ := iface_of Tryz.underlying96 hd
  exact ⟨u, v, by rw [hvar, ← e]⟩
theorem errR_of {W : World} {l : List (String × DataW Unit)} (h : laidMet Tryz.prog l W) (hm : ("strconv.ErrRange", Rows.laid_strconv_ErrRange) ∈ l) : ∃ tp p, W.var? Tryz.prog "strconv.ErrRange" = some #[.iface tp p] := by
  obtain ⟨g, t, cs, fuel, p, hg, ht, hvar, hd⟩ := Lib.laidMet.reads h hm
  obtain rfl := Option.some.inj (errR_named.symm.trans hg)
  obtain rfl := Option.some.inj (err_type.2.symm.trans ht)
  obtain ⟨u, v, e⟩ := iface_of Tryz.underlying96 hd
  exact ⟨u, v, by rw [hvar, ← e]⟩
theorem laidB_of {W : World} {l : List (String × DataW Unit)} (h : laidMet Tryz.prog l W) (h1 : ("internal/strconv.uint64pow10", Rows.laid_internal_strconv_uint64pow10) ∈ l) (h2 : ("strconv.ErrSyntax", Rows.laid_strconv_ErrSyntax) ∈ l) (h3 : ("strconv.ErrRange", Rows.laid_strconv_ErrRange) ∈ l) : LaidB W W.heap.size := by
  obtain ⟨tp, p, e⟩ := errS_of h h2
  obtain ⟨tp2, p2, e2⟩ := errR_of h h3
  exact ⟨Nat.le_refl _, ⟨var_lt tab_named (tab_of h h1), var_lt errS_named e, var_lt errR_named e2⟩, tab_of h h1, ⟨tp, p, e⟩, ⟨tp2, p2, e2⟩⟩
end
end Go.Proofs.YtokgkifckgnabaaGreatDoor
