import Derived.Test.YtnnblddloabbjaaTs
import Derived.Test.YtnnblddloabbjaaKb
set_option linter.unusedVariables false
namespace Go.Proofs.Ytnnblddloabbjaa
open Go.RowKit
def foldB (b : UInt8) : UInt8 := if greatB b.toNat then UInt8.ofNat (b.toNat + 32) else b
def foldL (l : List UInt8) : List UInt8 := l.map foldB
def foldTo (l : List UInt8) (k : Nat) : List UInt8 := (l.take k).map foldB ++ l.drop k
theorem foldTo_length (l : List UInt8) (k : Nat) : (foldTo l k).length = l.length := by simp [foldTo]; omega
theorem foldTo_get {l : List UInt8} {k : Nat} (hk : k < l.length) : (foldTo l k).getD k 0 = l.getD k 0 := by
  simp [foldTo, List.getElem?_append, hk, Nat.min_eq_left (Nat.le_of_lt hk)]
theorem foldTo_set {l : List UInt8} {k : Nat} (hk : k < l.length) : (foldTo l k).set k (foldB (l.getD k 0)) = foldTo l (k + 1) := by
  have e : k - ((l.take k).map foldB).length = 0 := by simp; omega
  rw [List.getD_eq_getElem?_getD, List.getElem?_eq_getElem hk, Option.getD_some, foldTo, foldTo, List.set_append_right _ _ (by simp; omega), List.drop_eq_getElem_cons hk, e, List.take_succ_eq_append_getElem hk]
  simp only [List.set_cons_zero, List.map_append, List.map_cons, List.map_nil, List.append_assoc, List.cons_append, List.nil_append]
theorem foldTo_same {l : List UInt8} {k : Nat} (hk : k < l.length) (h : foldB (l.getD k 0) = l.getD k 0) : foldTo l (k + 1) = foldTo l k := by
  rw [← foldTo_set hk, h, ← foldTo_get hk, List.getD_eq_getElem?_getD, List.getElem?_eq_getElem (by rw [foldTo_length]; exact hk), Option.getD_some]
  exact List.set_getElem_self _
theorem foldTo_all (l : List UInt8) : foldTo l l.length = foldL l := by simp [foldTo, foldL]
set_option maxHeartbeats 1000000 in
theorem fold_walk (s : ByteArray) (l : List UInt8) (hs : s.data.toList = l) (w : World) (hm : s.size ≤ 1000000) :
    Calls Try.prog 25 #[.string s] w fun e w' => e = .returned (.string ⟨(foldL l).toArray⟩) ∧ Below w.heap.size w w' := by
  obtain rfl : s = ⟨l.toArray⟩ := str_eq (by rw [hs])
  have hsz : (ByteArray.mk l.toArray).size = l.length := by simp [ByteArray.size]
  have hcv := fun w => Lib.run_convert_string_bytes (P := Try.prog) w 9 33 5 ⟨l.toArray⟩ Try.underlying9 Try.underlying33 Try.underlying5
  rw [hsz] at hcv hm
  clear hsz
  go_enter Try.func25, Try.ntmps25
  go_wp2_with fail
  go_loopw [10] (fun nv wr => ∃ k : Nat, k ≤ l.length ∧ nv = .int .i64 k ∧ Hid (BRow 5 wr w.heap.size (foldTo l k)) ∧ Below w.heap.size w wr) (fun nv _ => l.length - (intOf nv).toNat)
  case atStart => exact ⟨0, by omega, rfl, BRow.new 5 w l, below_bytes 5 w l⟩
  case round =>
    obtain ⟨k, hk, rfl, hrow, hbl⟩ := hrel
    by_cases hlt : k < l.length
    · have hcl := hrow.out.cell (j := k) (by rw [foldTo_length]; exact hlt)
      have hfr := hrow.out.frozen (j := k) (by rw [foldTo_length]; exact hlt)
      rw [foldTo_get hlt] at hcl
      obtain ⟨b, hb, hb2⟩ : ∃ b : Nat, Hid ((l.getD k 0).toNat = b) ∧ b < 256 := ⟨_, rfl, (l.getD k 0).toNat_lt⟩
      rw [hb.out] at hcl
      have cF := Lib.hid (great_walk b)
      cases hg : greatB b <;> rw [hg] at cF
      · have HN : Hid (BRow 5 wr w.heap.size (foldTo l (k + 1))) := by
          show BRow _ _ _ _
          rw [foldTo_same hlt (by rw [foldB, hb.out, hg]; rfl)]; exact hrow.out
        clear hg
        go_wp2_with fail
        refine (cF.out _).mono ?_
        rintro _ w1 ⟨rfl, rfl⟩
        go_wp2_with fail
        exact ⟨⟨k + 1, by omega, by go_num, HN, hbl⟩, by simp [intOf]; omega⟩
      · have HN : Hid (BRow 5 (wr.setCell ⟨w.heap.size, k, none⟩ (.int .u8 ((b + 32 : Nat) : Int))) w.heap.size (foldTo l (k + 1))) := by
          show BRow _ _ _ _
          have hgr : b ≤ 90 := by simp [greatB] at hg; omega
          have := hrow.out.set_ (j := k) (by rw [foldTo_length]; exact hlt) (b + 32) (by omega)
          rwa [show UInt8.ofNat (b + 32) = foldB (l.getD k 0) by rw [foldB, hb.out, hg]; rfl, foldTo_set hlt] at this
        have hg1 : 65 ≤ b ∧ b ≤ 90 := by simp [greatB] at hg; omega
        obtain ⟨hg1, hg2⟩ := hg1
        clear hg
        go_wp2_with fail
        refine (cF.out _).mono ?_
        rintro _ w1 ⟨rfl, rfl⟩
        go_wp2_with fail
        rw [show ((b + 32 : Nat) : Int) = (b : Int) - 65 + 97 by omega] at HN
        exact ⟨⟨k + 1, by omega, by go_num, HN, hbl.setCell (by simp) _⟩, by simp [intOf]; omega⟩
    · have hke : k = l.length := by omega
      have hrd := hrow.out.reads
      rw [hke, foldTo_all] at hrd
      have hln : (foldL l).length = l.length := by simp [foldL]
      rw [hln] at hrd
      have hst := fun c => reads_str (P := Try.prog) (c := c) hrd 33 9 5 Try.underlying33 Try.underlying5 Try.underlying9
      clear hke hln hrow
      go_wp2_with fail
      go_ret
      exact ⟨rfl, hbl⟩
end Go.Proofs.Ytnnblddloabbjaa
