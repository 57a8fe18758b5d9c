import Derived.Test.YtekpdkjkkglcjaaDm
set_option linter.unusedVariables false
set_option linter.unusedSimpArgs false
set_option maxRecDepth 20000
namespace Go.Proofs.Ytekpdkjkkglcjaa
open Go.RowKit
mutual
theorem may_all : ∀ t : Tm, MayOk t
  | .mk kind n s kids => may_node kind n s kids (may_each kids)
theorem may_each : ∀ ks : List Tm, ∀ k ∈ ks, MayOk k
  | [], k, h => by simp at h
  | x :: ks, k, h => by
    have h1 := may_all x
    have h2 := may_each ks
    rcases List.mem_cons.1 h with e | h
    · rw [e]; exact h1
    · exact h2 k h
end
def mayB (t : Tm) : Bool := (mayT t 1 0).1
set_option maxHeartbeats 2000000 in
theorem may_walk (t : Tm) (kind n : Int) (s : ByteArray) (A : Option Addr) (m c : Nat) (w : World) (ht : TmV w 0 t [.int .i64 kind, .int .i64 n, .string s, .slice A m c]) :
    Calls Try.prog 52 #[.agg #[.int .i64 kind, .int .i64 n, .string s, .slice A m c]] w fun e w' => e = .returned (.bool (mayB t)) ∧ Below w.heap.size w w' := by
  have hmf : ∀ (fn : Fn) (first cap : Array Value) (w : World), (Instr.makeFunc fn first cap).run Try.prog w = .ok (.func fn first cap) w := fun _ _ _ _ => rfl
  have hcf : ∀ args w, (callFunc 61 args).run Try.prog w = .ok (.enter 61 args) w := fun args w => by kernel_rfl
  have hb1 := (Below.refl w.heap.size w).alloc (Nat.le_refl _) (.cells #[.int .i64 kind, .int .i64 n, .string s, .slice A m c] 35)
  have hb2 := hb1.alloc hb1.size (.cells #[.int .i64 0] 3)
  have hs1 : (w.alloc (.cells #[.int .i64 kind, .int .i64 n, .string s, .slice A m c] 35)).heap.size = w.heap.size + 1 := by simp
  have hs2 : ((w.alloc (.cells #[.int .i64 kind, .int .i64 n, .string s, .slice A m c] 35)).alloc (.cells #[.int .i64 0] 3)).heap.size = w.heap.size + 1 + 1 := by simp
  have hk1 := Blk.new (w.alloc (.cells #[.int .i64 kind, .int .i64 n, .string s, .slice A m c] 35)) 3 #[.int .i64 0]
  rw [hs1] at hk1
  have HK1 := Lib.hid hk1
  have HB2 := Lib.hid hb2
  have HS2 := Lib.hid hs2
  clear hb1 hb2 hs1 hs2 hk1
  go_enter Try.func52, Try.ntmps52
  go_wp2_with fail
  refine (may_all t w (w.heap.size + 1) (w.heap.size + 1 + 1) 79 _ 1 0 _ ht (by omega) (by omega) (by omega) ⟨HB2.out.alloc HB2.out.size _, by omega, by omega, by omega, HK1.out.alloc _, ?_⟩).mono ?_
  · have := Blk.new ((w.alloc (.cells #[.int .i64 kind, .int .i64 n, .string s, .slice A m c] 35)).alloc (.cells #[.int .i64 0] 3)) 79 #[walkV (w.heap.size + 1) (w.heap.size + 1 + 1)]
    rw [HS2.out] at this
    exact this
  · rintro _ w' ⟨rfl, _, hg⟩
    have hbw := Lib.hid ((HB2.out.alloc HB2.out.size _).grown hg (HB2.out.alloc HB2.out.size _).size (fun q e => by injection e with e; omega))
    clear hg
    go_wp2_with fail
    go_ret
    exact ⟨rfl, hbw.out⟩
mutual
theorem enc_len : ∀ (t : Tm) (deep : Int) (c c' : Nat), mayT t deep c = (true, c') → (encT t).length + 1027 * c ≤ 1027 * c'
  | .mk kind n s kids, deep, c, c', h => by
    rw [mayT] at h
    split at h
    · injection h with e; cases e
    · rename_i hn
      have h1 := encs_len kids (deep + 1) (c + 1) c' h
      have hr : rightB kind n s kids.length = true := by
        cases hB : rightB kind n s kids.length
        · exact absurd (.inr (.inr hB)) hn
        · rfl
      rw [encT, List.length_cons, List.length_append]
      have hx : (if kind = 1 then numB s.size 2 ++ s.data.toList else if kind = 2 then numB n 4 else []).length ≤ 1026 := by
        rw [rightB, Bool.and_eq_true, Bool.and_eq_true, Bool.or_eq_true] at hr
        have hsz : s.size ≤ 1024 := by
          rcases hr.1.2 with h2 | h2
          · have : s.toList = [] := by simpa using h2
            have e := Lib.size_eq s
            have e2 : s.data.toList = [] := by rw [← ByteArray.toList_eq]; exact this
            rw [e2, List.length_nil] at e
            omega
          · rw [Bool.and_eq_true] at h2
            have := h2.2
            simp at this
            omega
        split
        · rw [List.length_append, ← Lib.size_eq]
          simp [numB]
          omega
        · split <;> simp [numB]
      omega
theorem encs_len : ∀ (ks : List Tm) (deep : Int) (c c' : Nat), mayK ks deep c = (true, c') → (encTs ks).length + 1027 * c ≤ 1027 * c'
  | [], deep, c, c', h => by rw [mayK] at h; injection h with _ e; rw [encTs]; simp; omega
  | k :: ks, deep, c, c', h => by
    rw [mayK] at h
    cases hT : mayT k deep c with
    | mk b c1 =>
      rw [hT] at h
      cases b
      · injection h with e; cases e
      · have h1 := enc_len k deep c c1 hT
        have h2 := encs_len ks deep c1 c' h
        rw [encTs, List.length_append]
        omega
end
theorem enc_bound {t : Tm} (h : mayB t = true) : (encT t).length ≤ 65728 := by
  rw [mayB] at h
  cases hT : mayT t 1 0 with
  | mk b c =>
    rw [hT] at h
    have hb : b = true := h
    subst hb
    have h1 := enc_len t 1 0 c hT
    have h2 := mayT_le t 1 0 c hT
    omega
end Go.Proofs.Ytekpdkjkkglcjaa
