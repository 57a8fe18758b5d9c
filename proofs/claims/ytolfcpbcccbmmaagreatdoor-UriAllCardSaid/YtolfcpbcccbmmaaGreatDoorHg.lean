/- query.field, walked to fieldO. Condition: the table of digits is laid. -/
import Derived.Test.YtolfcpbcccbmmaaGreatDoorHf
import Derived.Test.YtolfcpbcccbmmaaGreatDoorPg
import Derived.Test.YtolfcpbcccbmmaaGreatDoorPh
set_option linter.unusedVariables false
set_option linter.unusedSimpArgs false
set_option maxRecDepth 20000
namespace Go.Proofs.YtolfcpbcccbmmaaGreatDoor
open Go.RowKit Pc
theorem results_fl_t {fn : Func} {p u : Tmp} (h : fn.results = #[.cell p 57, .tmp u]) (tmps : Array Value) (w : World) (g : Nat) (f : Fl)
    (hp : tmps.getD p undef = .pointer (some ⟨g, 0, none⟩)) (hb : Blk w g 57 f.arr) : (results fn tmps).run Tryz.prog w = .ok (.tuple #[.agg f.arr, tmps.getD u undef]) w := by
  have hp' : tmps[p]?.getD undef = .pointer (some ⟨g, 0, none⟩) := by simpa using hp
  simp [results, h, hp', asAddr, run_loadVar_row w g 57 57 f.arr (0, 0) _ hb Tryz.underlying57 rfl fl_size]
def fieldV (o : Option Fl) : Value := .tuple #[.agg (o.getD ⟨[], []⟩).arr, .bool o.isSome]
theorem decV_some (b : List UInt8) : decV (some b) = .tuple #[.string ⟨b.toArray⟩, .int .i64 0] := rfl
theorem decV_none : decV none = .tuple #[.string ⟨#[]⟩, .int .i64 3] := rfl
theorem decV_any (o : Option (List UInt8)) : ∃ (x : ByteArray) (k : Int), decV o = .tuple #[.string x, .int .i64 k] := by
  cases o with
  | none => exact ⟨_, _, decV_none⟩
  | some b => exact ⟨_, _, decV_some b⟩
theorem cutA_some (l : List UInt8) (p : List UInt8 × List UInt8) : cutA l (some p) = p.1 := rfl
theorem cutP_len {c : UInt8} {l : List UInt8} {p : List UInt8 × List UInt8} (h : cutP c l = some p) : p.1.length ≤ l.length ∧ p.2.length ≤ l.length := by
  rw [cutP_is c l p h]
  simp
  omega
theorem Blk.setRow {w : World} {g : Nat} {t : TypeId} {cs cs' : Array Value} (h : Blk w g t cs) : Blk (w.setRow g cs') g t cs' := setRow_heap w g _ _ t _ h
theorem below_setRow {B b : Nat} {a w : World} (h : Below B a w) (hb : B ≤ b) (cs : Array Value) : Below B a (w.setRow b cs) :=
  ⟨h.os, h.tape, h.output, by rw [size_setRow]; exact h.size, fun i hi => (setRow_other w b i cs (by omega)).trans (h.block i hi)⟩
theorem DigOk.drewN {w : World} (h : DigOk w) (q : Nat) : DigOk (w.drewN q) := h
set_option maxHeartbeats 4000000 in
theorem field_walk (s : ByteArray) (l : List UInt8) (hs : s.data.toList = l) (w : World) (hd : DigOk w) (hm : s.size ≤ 1000000) :
    Calls Tryz.prog 48 #[.string s] w fun e w' => e = .returned (fieldV (fieldO l)) ∧ Below w.heap.size w w' := by
  have hsz : l.length = s.size := by rw [← hs, Lib.size_eq]
  have cc := Lib.hid (fun W => scut_walk s l hs 61 W hm)
  have HD := Lib.hid hd
  clear hd
  have hz := zero_of
  have HB0 : Hid (Below w.heap.size w (w.alloc (.cells (Fl.mk [] []).arr 57))) := (Below.refl w.heap.size w).alloc (Nat.le_refl _) _
  have HK0 := Lib.hid (Blk.new w 57 (Fl.mk [] []).arr)
  cases hp : cutP 61 l with
  | none =>
    have hv : Hid (fieldO l = none) := by show _ = _; unfold fieldO; rw [hp]
    rw [hp, show cutV l none = .tuple #[.string ⟨l.toArray⟩, .string ⟨#[]⟩, .bool false] from rfl] at cc
    obtain ⟨x1, k1, e1⟩ := decV_any (decL true l)
    obtain ⟨x2, k2, e2⟩ := decV_any (decL true [])
    have d1 := Lib.hid (fun W (h : DigOk W) => dec_walk ⟨l.toArray⟩ l (by simp) true W h (by rw [size_mks]; omega))
    have d2 := Lib.hid (fun W (h : DigOk W) => dec_walk ⟨#[]⟩ [] rfl true W h (by decide))
    rw [e1] at d1
    rw [e2] at d2
    clear e1 e2 hp hs hsz hm
    go_enter Tryz.func48, Tryz.ntmps48
    go_wp2_with fail
    refine (cc.out _).mono ?_
    rintro _ w1 ⟨rfl, q, rfl⟩
    go_wp2_with fail
    refine (d1.out _ ((HD.out.below HB0.out).drewN q)).mono ?_
    rintro _ w2 ⟨rfl, hb2⟩
    have HB2 := Lib.hid (below_next (below_drewN HB0.out q) hb2)
    have HK2 := Lib.hid ((HK0.out.drewN q).below hb2 (HK0.out.drewN q).lt)
    have HD2 := Lib.hid (HD.out.below HB2.out)
    clear hb2 HB0 HK0
    go_wp2_with fail
    refine (d2.out _ HD2.out).mono ?_
    rintro _ w3 ⟨rfl, hb3⟩
    have HB3 := Lib.hid (below_next HB2.out hb3)
    have HK3 := Lib.hid (HK2.out.below hb3 HK2.out.lt)
    clear hb3 HB2 HK2 HD2
    go_wp2_with (refine wpList_store_fl2 rfl _ _ rfl w.heap.size HK3.out rfl rfl ?_)
    refine bodyPost_ret (results_fl_t Tryz.results48 _ _ w.heap.size ⟨[], []⟩ rfl HK3.out.setRow) rfl ⟨?_, below_setRow HB3.out (Nat.le_refl _) _⟩
    rw [hv.out]
    rfl
  | some p =>
    obtain ⟨a, b⟩ := p
    obtain ⟨hl1, hl2⟩ := cutP_len hp
    simp only at hl1 hl2
    rw [hp, show cutV l (some (a, b)) = .tuple #[.string ⟨a.toArray⟩, .string ⟨b.toArray⟩, .bool true] from rfl] at cc
    have d1 := Lib.hid (fun W (h : DigOk W) => dec_walk ⟨a.toArray⟩ a (by simp) true W h (by rw [size_mks]; omega))
    have d2 := Lib.hid (fun W (h : DigOk W) => dec_walk ⟨b.toArray⟩ b (by simp) true W h (by rw [size_mks]; omega))
    cases ha : decL true a with
    | none =>
      have hv : Hid (fieldO l = none) := by show _ = _; unfold fieldO; rw [hp]; simp only; rw [ha]
      obtain ⟨x2, k2, e2⟩ := decV_any (decL true b)
      rw [ha, decV_none] at d1
      rw [e2] at d2
      clear e2 hp hs hsz hm ha hl1 hl2
      go_enter Tryz.func48, Tryz.ntmps48
      go_wp2_with fail
      refine (cc.out _).mono ?_
      rintro _ w1 ⟨rfl, q, rfl⟩
      go_wp2_with fail
      refine (d1.out _ ((HD.out.below HB0.out).drewN q)).mono ?_
      rintro _ w2 ⟨rfl, hb2⟩
      have HB2 := Lib.hid (below_next (below_drewN HB0.out q) hb2)
      have HK2 := Lib.hid ((HK0.out.drewN q).below hb2 (HK0.out.drewN q).lt)
      have HD2 := Lib.hid (HD.out.below HB2.out)
      clear hb2 HB0 HK0
      go_wp2_with fail
      refine (d2.out _ HD2.out).mono ?_
      rintro _ w3 ⟨rfl, hb3⟩
      have HB3 := Lib.hid (below_next HB2.out hb3)
      have HK3 := Lib.hid (HK2.out.below hb3 HK2.out.lt)
      clear hb3 HB2 HK2 HD2
      go_wp2_with (refine wpList_store_fl2 rfl _ _ rfl w.heap.size HK3.out rfl rfl ?_)
      refine bodyPost_ret (results_fl_t Tryz.results48 _ _ w.heap.size ⟨[], []⟩ rfl HK3.out.setRow) rfl ⟨?_, below_setRow HB3.out (Nat.le_refl _) _⟩
      rw [hv.out]
      rfl
    | some n =>
      rw [ha, decV_some] at d1
      cases hb : decL true b with
      | none =>
        have hv : Hid (fieldO l = none) := by show _ = _; unfold fieldO; rw [hp]; simp only; rw [ha, hb]
        rw [hb, decV_none] at d2
        clear hp hs hsz hm ha hl1 hl2 hb
        go_enter Tryz.func48, Tryz.ntmps48
        go_wp2_with fail
        refine (cc.out _).mono ?_
        rintro _ w1 ⟨rfl, q, rfl⟩
        go_wp2_with fail
        refine (d1.out _ ((HD.out.below HB0.out).drewN q)).mono ?_
        rintro _ w2 ⟨rfl, hb2⟩
        have HB2 := Lib.hid (below_next (below_drewN HB0.out q) hb2)
        have HK2 := Lib.hid ((HK0.out.drewN q).below hb2 (HK0.out.drewN q).lt)
        have HD2 := Lib.hid (HD.out.below HB2.out)
        clear hb2 HB0 HK0
        go_wp2_with fail
        refine (d2.out _ HD2.out).mono ?_
        rintro _ w3 ⟨rfl, hb3⟩
        have HB3 := Lib.hid (below_next HB2.out hb3)
        have HK3 := Lib.hid (HK2.out.below hb3 HK2.out.lt)
        clear hb3 HB2 HK2 HD2
        go_wp2_with (refine wpList_store_fl2 rfl _ _ rfl w.heap.size HK3.out rfl rfl ?_)
        refine bodyPost_ret (results_fl_t Tryz.results48 _ _ w.heap.size ⟨[], []⟩ rfl HK3.out.setRow) rfl ⟨?_, below_setRow HB3.out (Nat.le_refl _) _⟩
        rw [hv.out]
        rfl
      | some v =>
        rw [hb, decV_some] at d2
        by_cases hn : n = []
        · have hv : Hid (fieldO l = none) := by show _ = _; unfold fieldO; rw [hp]; simp only; rw [ha, hb]; exact if_pos hn
          subst hn
          clear hp hs hsz hm ha hl1 hl2 hb
          go_enter Tryz.func48, Tryz.ntmps48
          go_wp2_with fail
          refine (cc.out _).mono ?_
          rintro _ w1 ⟨rfl, q, rfl⟩
          go_wp2_with fail
          refine (d1.out _ ((HD.out.below HB0.out).drewN q)).mono ?_
          rintro _ w2 ⟨rfl, hb2⟩
          have HB2 := Lib.hid (below_next (below_drewN HB0.out q) hb2)
          have HK2 := Lib.hid ((HK0.out.drewN q).below hb2 (HK0.out.drewN q).lt)
          have HD2 := Lib.hid (HD.out.below HB2.out)
          clear hb2 HB0 HK0
          go_wp2_with fail
          refine (d2.out _ HD2.out).mono ?_
          rintro _ w3 ⟨rfl, hb3⟩
          have HB3 := Lib.hid (below_next HB2.out hb3)
          have HK3 := Lib.hid (HK2.out.below hb3 HK2.out.lt)
          clear hb3 HB2 HK2 HD2
          go_wp2_with (refine wpList_store_fl2 rfl _ _ rfl w.heap.size HK3.out rfl rfl ?_)
          refine bodyPost_ret (results_fl_t Tryz.results48 _ _ w.heap.size ⟨[], []⟩ rfl HK3.out.setRow) rfl ⟨?_, below_setRow HB3.out (Nat.le_refl _) _⟩
          rw [hv.out]
          rfl
        · have hv : Hid (fieldO l = some ⟨n, v⟩) := by show _ = _; unfold fieldO; rw [hp]; simp only; rw [ha, hb]; exact if_neg hn
          have hn1 : n.isEmpty = false := by cases n with | nil => exact absurd rfl hn | cons _ _ => rfl
          clear hp hs hsz hm ha hl1 hl2 hb
          go_enter Tryz.func48, Tryz.ntmps48
          go_wp2_with fail
          refine (cc.out _).mono ?_
          rintro _ w1 ⟨rfl, q, rfl⟩
          go_wp2_with fail
          refine (d1.out _ ((HD.out.below HB0.out).drewN q)).mono ?_
          rintro _ w2 ⟨rfl, hb2⟩
          have HB2 := Lib.hid (below_next (below_drewN HB0.out q) hb2)
          have HK2 := Lib.hid ((HK0.out.drewN q).below hb2 (HK0.out.drewN q).lt)
          have HD2 := Lib.hid (HD.out.below HB2.out)
          clear hb2 HB0 HK0
          go_wp2_with fail
          refine (d2.out _ HD2.out).mono ?_
          rintro _ w3 ⟨rfl, hb3⟩
          have HB3 := Lib.hid (below_next HB2.out hb3)
          have HK3 := Lib.hid (HK2.out.below hb3 HK2.out.lt)
          clear hb3 HB2 HK2 HD2
          go_wp2_with (refine wpList_store_fl2 (f := ⟨n, v⟩) rfl _ _ rfl w.heap.size HK3.out rfl rfl ?_)
          refine bodyPost_ret (results_fl_t Tryz.results48 _ _ w.heap.size ⟨n, v⟩ rfl HK3.out.setRow) rfl ⟨?_, below_setRow HB3.out (Nat.le_refl _) _⟩
          rw [hv.out]
          rfl
end Go.Proofs.YtolfcpbcccbmmaaGreatDoor
