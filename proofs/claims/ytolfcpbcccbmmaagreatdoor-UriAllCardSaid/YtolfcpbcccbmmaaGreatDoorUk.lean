/- uri.Parse. Condition: the table of digits is laid. -/
import Derived.Test.YtolfcpbcccbmmaaGreatDoorUj
set_option linter.unusedVariables false
set_option linter.unusedSimpArgs false
set_option maxRecDepth 20000
namespace Go.Proofs.YtolfcpbcccbmmaaGreatDoor
open Go.RowKit Pc
set_option maxRecDepth 100000 in
set_option maxHeartbeats 4000000 in
theorem place_eq (a b : List UInt8) (W : World) : (Op.equalIn 10000 47 (.agg #[.string ⟨a.toArray⟩, .string ⟨b.toArray⟩]) (.agg #[.string ⟨#[]⟩, .string ⟨#[]⟩])).run Tryz.prog W = .ok (decide (a = [] ∧ b = [])) W := by
  have hs1 : Tryz.prog.stoodInHeld 47 = false := by kernel_rfl
  have hf1 : Tryz.prog.underlying 47 = some (.struct (Tryz.prog.fieldsOf 47)) := by kernel_rfl
  rw [run_equalIn_struct W 9999 _ _ _ hf1 hs1]
  rw [show (Tryz.prog.fieldsOf 47).toList = _ from (by unfold Program.fieldsOf; rw [Tryz.underlying47])]
  have k1 := tl_injL (a := a) (b := [])
  have k2 := tl_injL (a := b) (b := [])
  have e0 : (⟨([] : List UInt8).toArray⟩ : ByteArray) = ⟨#[]⟩ := rfl
  rw [e0] at k1 k2
  generalize hx1 : (⟨a.toArray⟩ : ByteArray).toList = x1 at k1
  generalize hx2 : (⟨b.toArray⟩ : ByteArray).toList = x2 at k2
  generalize hy1 : (⟨#[]⟩ : ByteArray).toList = y1 at k1 k2
  have j1 : x1 = y1 ↔ a = [] := ⟨k1, fun e => by rw [← hx1, e, e0, hy1]⟩
  have j2 : x2 = y1 ↔ b = [] := ⟨k2, fun e => by rw [← hx2, e, e0, hy1]⟩
  simp [go_sem, Tryz.underlying9, hx1, hx2, hy1]
  by_cases g0 : a = []
  · by_cases g1 : b = []
    · simp [j1, j2, g0, g1]
    · simp [j1, j2, g0, g1]
  · simp [j1, j2, g0]
theorem eql_place (a b : List UInt8) (W : World) : (binOp .eql 47 (.agg #[.string ⟨a.toArray⟩, .string ⟨b.toArray⟩]) (.agg #[.string ⟨#[]⟩, .string ⟨#[]⟩])).run Tryz.prog W = .ok (.bool (decide (a = [] ∧ b = []))) W := by
  rw [run_eql_struct, place_eq]
  rfl
/-- what an address's text comes back as -/
def UriR (l : List UInt8) (w : World) (e : Ending) (w' : World) : Prop :=
  ∃ A c, e = .returned (.tuple #[.agg ((uriE l).2.arr A c), .int .i64 (uriE l).1]) ∧ FsAt w' A c (uriE l).2.q ∧ Below w.heap.size w w'
theorem ones3 (u : Ur) (A : Option Addr) (c : Nat) : (u.arr A c).all (·.oneCell') = true := by
  rw [Array.all_eq_true_iff_forall_mem]
  intro v hv
  simp [Ur.arr] at hv
  rcases hv with rfl | rfl | rfl <;> rfl
theorem results_ur_t {fn : Func} {p t : Tmp} (h : fn.results = #[.cell p 28, .tmp t]) (tmps : Array Value) (w : World) (g : Nat) (u : Ur) (A : Option Addr) (c : Nat)
    (hp : tmps.getD p undef = .pointer (some ⟨g, 0, none⟩)) (hb : Blk w g 28 (u.arr A c)) : (results fn tmps).run Tryz.prog w = .ok (.tuple #[.agg (u.arr A c), tmps.getD t undef]) w := by
  have hp' : tmps[p]?.getD undef = .pointer (some ⟨g, 0, none⟩) := by simpa using hp
  simp [results, h, hp', asAddr, run_loadVar_row w g 28 28 (u.arr A c) (0, 0) _ hb Tryz.underlying28 rfl ur_size]
theorem UriR.err {l : List UInt8} {w w' : World} (n : Nat) (hn : uriE l = (n, ⟨[], [], []⟩)) (hb : Below w.heap.size w w') : UriR l w (.returned (.tuple #[.agg ((Ur.mk [] [] []).arr none 0), .int .i64 n])) w' :=
  ⟨none, 0, by rw [hn], by rw [hn]; exact FsAt.none_ _ _ _, hb⟩
theorem cut_uri (l : List UInt8) (h : ¬ 1024 < l.length) : (hostB (cutE l).1 = false → uriE l = (3, ⟨[], [], []⟩)) ∧ (hostB (cutE l).1 = true → uriE l = if (splitE (cutE l).2).1 = 0 then (0, ⟨(cutE l).1, (splitE (cutE l).2).2.1, (splitE (cutE l).2).2.2⟩) else ((splitE (cutE l).2).1, ⟨[], [], []⟩)) := by
  unfold uriE cutE
  rw [if_neg h]
  split
  · cases hp : cutP 47 (l.drop 8) with
    | none => exact ⟨fun _ => rfl, fun e => by cases e⟩
    | some p =>
      simp only
      constructor
      · intro e; rw [if_pos e]
      · intro e; rw [if_neg (by rw [e]; simp)]
  · exact ⟨fun _ => rfl, fun e => by cases e⟩
theorem cutE_len (l : List UInt8) : (cutE l).1.length ≤ l.length ∧ (cutE l).2.length ≤ l.length := by
  unfold cutE
  split
  · cases hp : cutP 47 (l.drop 8) with
    | none => simp
    | some p =>
      have h := cutP_is 47 _ p hp
      have hl := congrArg List.length h
      rw [List.length_drop, List.length_append, List.length_cons] at hl
      simp only [List.length_cons]
      omega
  · simp
theorem splitE_len (l : List UInt8) : (splitE l).2.2.length ≤ 1000000 := by
  by_cases h : (splitE l).1 = 0
  · have := (splitE_ok h).2.2.1; omega
  · rw [splitE_err h]; simp
set_option maxHeartbeats 16000000 in
theorem uparse_walk (s : ByteArray) (l : List UInt8) (hs : s.data.toList = l) (w : World) (hd : DigOk w) (hm : s.size ≤ 1000000) :
    Calls Tryz.prog 6 #[.string s] w (UriR l w) := by
  have hsz : l.length = s.size := by rw [← hs, Lib.size_eq]
  have HD := Lib.hid hd
  have HB0 := Lib.hid ((Below.refl w.heap.size w).alloc (Nat.le_refl _) (.cells ((Ur.mk [] [] []).arr none 0) 28))
  have HK0 := Lib.hid (Blk.new w 28 ((Ur.mk [] [] []).arr none 0))
  have hz : (#[.string ⟨#[]⟩, .string ⟨#[]⟩, .slice none 0 0] : Array Value) = (Ur.mk [] [] []).arr none 0 := rfl
  clear hd
  by_cases h1 : 1024 < s.size
  · have hv : Hid (uriE l = (4, ⟨[], [], []⟩)) := if_pos (by omega)
    have hdd : decide ((1024 : Int) < (s.size : Int)) = true := by simp; omega
    clear hs
    go_enter Tryz.func6, Tryz.ntmps6
    go_wp2_with (refine wpList_store_blk rfl 28 _ _ rfl w.heap.size ((Ur.mk [] [] []).arr none 0) ((Ur.mk [] [] []).arr none 0) _ rfl rfl HK0.out rfl ur_size (ones3 _ _ _) ?_)
    refine bodyPost_ret (results_ur_t Tryz.results6 _ _ w.heap.size _ _ _ rfl HK0.out.setRow) rfl ?_
    exact UriR.err 4 hv.out (below_setRow HB0.out (Nat.le_refl _) _)
  have hdd : decide ((1024 : Int) < (s.size : Int)) = false := by simp; omega
  obtain ⟨hv1, hv2⟩ := cut_uri l (by omega)
  obtain ⟨hl1, hl2⟩ := cutE_len l
  have cc := Lib.hid (fun W => cut_walk s l hs W hm)
  generalize cutE l = ab at hv1 hv2 hl1 hl2 cc
  obtain ⟨a, b⟩ := ab
  simp only at hv1 hv2 hl1 hl2 cc
  rw [show placeA a b = #[.string ⟨a.toArray⟩, .string ⟨b.toArray⟩] from rfl] at cc
  have ch := Lib.hid (fun W => hosted_walk a b W (by omega))
  have hpl := fun W : World => eql_place a b W
  have hqg : Tryz.prog.eqGuardType Tryz.prog.depth 47 = false := by kernel_rfl
  have cu := Lib.hid (fun W hd2 => usplit_walk ⟨b.toArray⟩ b (by simp) W hd2 (by rw [size_mks]; omega))
  cases hh : hostB a with
  | false =>
    have HV := Lib.hid (hv1 hh)
    rw [hh] at ch
    clear hv1 hv2 hs hh
    by_cases h00 : a = [] ∧ b = []
    · rw [decide_eq_true h00] at hpl
      clear h00
      go_enter Tryz.func6, Tryz.ntmps6
      go_wp2_with fail
      refine (cc.out _).mono ?_
      rintro _ w1 ⟨rfl, hbn⟩
      have HB1 := Lib.hid (below_next HB0.out hbn)
      have HK1 := Lib.hid (HK0.out.below hbn HK0.out.lt)
      have HB2 := Lib.hid (HB1.out.alloc HB1.out.size (.cells #[.string ⟨a.toArray⟩, .string ⟨b.toArray⟩] 47))
      have HK2 := Lib.hid (HK1.out.alloc (.cells #[.string ⟨a.toArray⟩, .string ⟨b.toArray⟩] 47))
      have HP2 := Lib.hid (Blk.new w1 47 #[.string ⟨a.toArray⟩, .string ⟨b.toArray⟩])
      clear hbn
      go_wp2_with (refine wpList_store_blk rfl 28 _ _ rfl w.heap.size ((Ur.mk [] [] []).arr none 0) ((Ur.mk [] [] []).arr none 0) _ rfl rfl HK2.out rfl ur_size (ones3 _ _ _) ?_)
      refine bodyPost_ret (results_ur_t Tryz.results6 _ _ w.heap.size _ _ _ rfl HK2.out.setRow) rfl ?_
      exact UriR.err 3 HV.out (below_setRow HB2.out (Nat.le_refl _) _)
    · rw [decide_eq_false h00] at hpl
      clear h00
      go_enter Tryz.func6, Tryz.ntmps6
      go_wp2_with fail
      refine (cc.out _).mono ?_
      rintro _ w1 ⟨rfl, hbn⟩
      have HB1 := Lib.hid (below_next HB0.out hbn)
      have HK1 := Lib.hid (HK0.out.below hbn HK0.out.lt)
      have HB2 := Lib.hid (HB1.out.alloc HB1.out.size (.cells #[.string ⟨a.toArray⟩, .string ⟨b.toArray⟩] 47))
      have HK2 := Lib.hid (HK1.out.alloc (.cells #[.string ⟨a.toArray⟩, .string ⟨b.toArray⟩] 47))
      have HP2 := Lib.hid (Blk.new w1 47 #[.string ⟨a.toArray⟩, .string ⟨b.toArray⟩])
      clear hbn
      go_wp2_with fail
      refine (ch.out _).mono ?_
      rintro _ w3 ⟨rfl, hbn⟩
      have HB3 := Lib.hid (below_next HB2.out hbn)
      have HK3 := Lib.hid (HK2.out.below hbn HK2.out.lt)
      have HP3 := Lib.hid (HP2.out.below hbn HP2.out.lt)
      have hp0 : w3.cell? ⟨w1.heap.size, 0, none⟩ = some (.string ⟨a.toArray⟩) := HP3.out.cell 0
      have hp1 : w3.cell? ⟨w1.heap.size, 1, none⟩ = some (.string ⟨b.toArray⟩) := HP3.out.cell 1
      have hlt3 := HP3.out.lt
      clear hbn
      go_wp2_with (refine wpList_store_blk rfl 28 _ _ rfl w.heap.size ((Ur.mk [] [] []).arr none 0) ((Ur.mk [] [] []).arr none 0) _ rfl rfl HK3.out rfl ur_size (ones3 _ _ _) ?_)
      refine bodyPost_ret (results_ur_t Tryz.results6 _ _ w.heap.size _ _ _ rfl HK3.out.setRow) rfl ?_
      exact UriR.err 3 HV.out (below_setRow HB3.out (Nat.le_refl _) _)
  | true =>
    have HV0 := hv2 hh
    have h00 : ¬ (a = [] ∧ b = []) := by rintro ⟨rfl, _⟩; cases hh
    rw [hh] at ch
    rw [decide_eq_false h00] at hpl
    have HL : Hid ((splitE b).2.2.length ≤ 1000000) := splitE_len b
    by_cases h0 : (splitE b).1 = 0
    · have HV : Hid (uriE l = (0, ⟨a, (splitE b).2.1, (splitE b).2.2⟩)) := by show _ = _; rw [HV0, if_pos h0]
      clear hv1 hv2 hs hh h00 HV0
      go_enter Tryz.func6, Tryz.ntmps6
      go_wp2_with fail
      refine (cc.out _).mono ?_
      rintro _ w1 ⟨rfl, hbn⟩
      have HB1 := Lib.hid (below_next HB0.out hbn)
      have HK1 := Lib.hid (HK0.out.below hbn HK0.out.lt)
      have HB2 := Lib.hid (HB1.out.alloc HB1.out.size (.cells #[.string ⟨a.toArray⟩, .string ⟨b.toArray⟩] 47))
      have HK2 := Lib.hid (HK1.out.alloc (.cells #[.string ⟨a.toArray⟩, .string ⟨b.toArray⟩] 47))
      have HP2 := Lib.hid (Blk.new w1 47 #[.string ⟨a.toArray⟩, .string ⟨b.toArray⟩])
      clear hbn
      go_wp2_with fail
      refine (ch.out _).mono ?_
      rintro _ w3 ⟨rfl, hbn⟩
      have HB3 := Lib.hid (below_next HB2.out hbn)
      have HK3 := Lib.hid (HK2.out.below hbn HK2.out.lt)
      have HP3 := Lib.hid (HP2.out.below hbn HP2.out.lt)
      have hp0 : w3.cell? ⟨w1.heap.size, 0, none⟩ = some (.string ⟨a.toArray⟩) := HP3.out.cell 0
      have hp1 : w3.cell? ⟨w1.heap.size, 1, none⟩ = some (.string ⟨b.toArray⟩) := HP3.out.cell 1
      have hlt3 := HP3.out.lt
      clear hbn
      go_wp2_with fail
      refine (cu.out _ (HD.out.below HB3.out)).mono ?_
      rintro _ w4 ⟨v, rfl, hown, hbn⟩
      have HB4 := Lib.hid (below_next HB3.out hbn)
      have HK4 := Lib.hid (HK3.out.below hbn HK3.out.lt)
      have hp2 : w4.cell? ⟨w1.heap.size, 0, none⟩ = some (.string ⟨a.toArray⟩) := (hbn.cell hlt3).trans hp0
      clear hp0 hp1
      rw [h0]
      obtain ⟨A4, c4, rfl, hf4⟩ := FsAt.own hown HL.out
      have HO := Lib.hid hown
      clear hown hf4 h0 hbn
      go_wp2_with (refine wpList_store_blk rfl 28 _ _ rfl w.heap.size ((Ur.mk [] [] []).arr none 0) ((Ur.mk a (splitE b).2.1 (splitE b).2.2).arr A4 c4) _ rfl rfl HK4.out rfl ur_size (ones3 _ _ _) ?_)
      refine bodyPost_ret (results_ur_t Tryz.results6 _ _ w.heap.size _ _ _ rfl HK4.out.setRow) rfl ?_
      refine ⟨A4, c4, by rw [HV.out]; rfl, ?_, below_setRow HB4.out (Nat.le_refl _) _⟩
      rw [HV.out]
      obtain ⟨A5, c5, e5, hf5⟩ := FsAt.own (World.ownsRow.kept HO.out (setRow_only w4 w.heap.size ((Ur.mk a (splitE b).2.1 (splitE b).2.2).arr A4 c4)) (.inr (fun e => by have := (World.ownsRow.lt HO.out _ e).1; have := HK3.out.lt; omega))) HL.out
      injection e5 with eA _ ec
      subst eA ec
      exact hf5
    · have HV : Hid (uriE l = ((splitE b).1, ⟨[], [], []⟩)) := by show _ = _; rw [HV0, if_neg h0]
      have h0a : (((splitE b).1 : Int) != 0) = true := by rw [bne_iff_ne]; omega
      have h0b : (((splitE b).1 : Int) == 0) = false := by rw [beq_eq_false_iff_ne]; omega
      have h0c : ¬ ((splitE b).1 : Int) = 0 := by omega
      clear hv1 hv2 hs hh h00 HV0 h0
      go_enter Tryz.func6, Tryz.ntmps6
      go_wp2_with fail
      refine (cc.out _).mono ?_
      rintro _ w1 ⟨rfl, hbn⟩
      have HB1 := Lib.hid (below_next HB0.out hbn)
      have HK1 := Lib.hid (HK0.out.below hbn HK0.out.lt)
      have HB2 := Lib.hid (HB1.out.alloc HB1.out.size (.cells #[.string ⟨a.toArray⟩, .string ⟨b.toArray⟩] 47))
      have HK2 := Lib.hid (HK1.out.alloc (.cells #[.string ⟨a.toArray⟩, .string ⟨b.toArray⟩] 47))
      have HP2 := Lib.hid (Blk.new w1 47 #[.string ⟨a.toArray⟩, .string ⟨b.toArray⟩])
      clear hbn
      go_wp2_with fail
      refine (ch.out _).mono ?_
      rintro _ w3 ⟨rfl, hbn⟩
      have HB3 := Lib.hid (below_next HB2.out hbn)
      have HK3 := Lib.hid (HK2.out.below hbn HK2.out.lt)
      have HP3 := Lib.hid (HP2.out.below hbn HP2.out.lt)
      have hp0 : w3.cell? ⟨w1.heap.size, 0, none⟩ = some (.string ⟨a.toArray⟩) := HP3.out.cell 0
      have hp1 : w3.cell? ⟨w1.heap.size, 1, none⟩ = some (.string ⟨b.toArray⟩) := HP3.out.cell 1
      have hlt3 := HP3.out.lt
      clear hbn
      go_wp2_with fail
      refine (cu.out _ (HD.out.below HB3.out)).mono ?_
      rintro _ w4 ⟨v, rfl, hown, hbn⟩
      have HB4 := Lib.hid (below_next HB3.out hbn)
      have HK4 := Lib.hid (HK3.out.below hbn HK3.out.lt)
      have hp2 : w4.cell? ⟨w1.heap.size, 0, none⟩ = some (.string ⟨a.toArray⟩) := (hbn.cell hlt3).trans hp0
      clear hp0 hp1
      clear hown hbn
      go_wp2_with (refine wpList_store_blk rfl 28 _ _ rfl w.heap.size ((Ur.mk [] [] []).arr none 0) ((Ur.mk [] [] []).arr none 0) _ rfl rfl HK4.out rfl ur_size (ones3 _ _ _) ?_)
      refine bodyPost_ret (results_ur_t Tryz.results6 _ _ w.heap.size _ _ _ rfl HK4.out.setRow) rfl ?_
      exact UriR.err _ HV.out (below_setRow HB4.out (Nat.le_refl _) _)
end Go.Proofs.YtolfcpbcccbmmaaGreatDoor
