/- Clients, plain: which may be, who is found, who shows what. No condition of its own. -/
import Derived.Test.YtekbdfnbnpmclaaGreatDoorCa
import Derived.Test.YtekbdfnbnpmclaaGreatDoorVc
import Derived.Test.YtekbdfnbnpmclaaGreatDoorVs
import Derived.Test.YtekbdfnbnpmclaaGreatDoorVm
set_option linter.unusedVariables false
set_option linter.unusedSimpArgs false
set_option maxRecDepth 20000
namespace Go.Proofs.YtekbdfnbnpmclaaGreatDoor
open Go.RowKit Pc
def leadB (l : List UInt8) : Bool := decide (l.length ≤ 256) && decide ((uriE l).1 = 0) && decide ((uriE l).2.q.length = 0)
def redsB : List (List UInt8) → List (List UInt8) → Bool
  | _, [] => true
  | seen, p :: r => leadB p && (!seen.contains p && redsB (seen ++ [p]) r)
def redB (ps : List (List UInt8)) : Bool := redsB [] ps && (decide (1 ≤ ps.length) && decide (ps.length ≤ 4))
theorem take_snoc {α : Type} (l : List α) (k : Nat) (x : α) (h : l[k]? = some x) : l.take (k + 1) = l.take k ++ [x] := by
  rw [List.take_add_one, h]; rfl
theorem redsB_at (ps : List (List UInt8)) (k : Nat) (p : List UInt8) (h : ps[k]? = some p) :
    redsB (ps.take k) (ps.drop k) = (leadB p && (!(ps.take k).contains p && redsB (ps.take (k + 1)) (ps.drop (k + 1)))) := by
  have hk := (List.getElem?_eq_some_iff.1 h).1
  have hp : ps[k] = p := (List.getElem?_eq_some_iff.1 h).2
  rw [List.drop_eq_getElem_cons hk, hp, redsB, take_snoc ps k p h]
theorem redsB_end (ps : List (List UInt8)) : redsB (ps.take ps.length) (ps.drop ps.length) = true := by rw [List.drop_length]; unfold redsB; rfl
def oneB (c : Cl) : Bool := S16.wordB c.id && (decide (0 ≤ c.sec) && (decide (c.sec ≤ 1073741824) && (redB c.red && decide (S16.scopeE (splitC 32 c.sc) = 0))))
def isId (q : List UInt8) (c : Cl) : Bool := decide (c.id = q)
def findI (q : List UInt8) (cs : List Cl) : Option Nat := cs.findIdx? (isId q)
def maysB : List Cl → List Cl → Bool
  | _, [] => true
  | seen, c :: r => !seen.any (isId c.id) && (oneB c && maysB (seen ++ [c]) r)
def clMayB (cs : List Cl) : Bool := decide (cs.length ≤ 8) && maysB [] cs
theorem maysB_at (cs : List Cl) (k : Nat) (c : Cl) (h : cs[k]? = some c) :
    maysB (cs.take k) (cs.drop k) = (!(cs.take k).any (isId c.id) && (oneB c && maysB (cs.take (k + 1)) (cs.drop (k + 1)))) := by
  have hk := (List.getElem?_eq_some_iff.1 h).1
  have hp : cs[k] = c := (List.getElem?_eq_some_iff.1 h).2
  rw [List.drop_eq_getElem_cons hk, hp, maysB, take_snoc cs k c h]
theorem maysB_end (cs : List Cl) : maysB (cs.take cs.length) (cs.drop cs.length) = true := by rw [List.drop_length]; unfold maysB; rfl
theorem cidx_some {p : Cl → Bool} {fs : List Cl} {k : Nat} {r : Cl} (h : ∀ j, j < k → ∀ r, fs[j]? = some r → p r = false) (hk : fs[k]? = some r) (hp : p r = true) : fs.findIdx? p = some k := by
  obtain ⟨hlt, e⟩ := List.getElem?_eq_some_iff.1 hk
  rw [List.findIdx?_eq_some_iff_getElem]
  refine ⟨hlt, by rw [e]; exact hp, fun j hj => ?_⟩
  rw [h j hj _ (List.getElem?_eq_getElem (by omega))]
  simp
theorem cidx_none {p : Cl → Bool} {fs : List Cl} (h : ∀ j, j < fs.length → ∀ r, fs[j]? = some r → p r = false) : fs.findIdx? p = none := by
  rw [List.findIdx?_eq_none_iff]
  intro x hx
  obtain ⟨j, hj, e⟩ := List.getElem_of_mem hx
  exact h j hj x (by rw [List.getElem?_eq_getElem hj, e])
/-- the number of a client, by what stands ahead of it -/
theorem findI_seen {cs : List Cl} {k : Nat} {c : Cl} (h : cs[k]? = some c) : ((cs.take k).any (isId c.id) = false → findI c.id cs = some k) ∧ ((cs.take k).any (isId c.id) = true → ∃ j, j < k ∧ findI c.id cs = some j) := by
  constructor
  · intro hn
    rw [List.any_eq_false] at hn
    refine cidx_some (fun j hj r hr => ?_) h (by simp [isId])
    have := hn r (List.mem_iff_getElem?.2 ⟨j, by rw [List.getElem?_take, if_pos hj, hr]⟩)
    simpa using this
  · intro hy
    obtain ⟨x, hx, hp⟩ := List.any_eq_true.1 hy
    obtain ⟨j, hj⟩ := List.mem_iff_getElem?.1 hx
    rw [List.getElem?_take] at hj
    split at hj
    · rename_i hjk
      cases hf : findI c.id cs with
      | none =>
        rw [findI, List.findIdx?_eq_none_iff] at hf
        have := hf x (List.mem_of_getElem? hj)
        rw [this] at hp; cases hp
      | some m =>
        refine ⟨m, ?_, rfl⟩
        rw [findI, List.findIdx?_eq_some_iff_getElem] at hf
        obtain ⟨hm, _, hno⟩ := hf
        rcases Nat.lt_or_ge j m with q | q
        · have h1 := hno j q
          have h2 : cs[j] = x := (List.getElem?_eq_some_iff.1 hj).2
          rw [h2] at h1
          exact absurd hp h1
        · omega
    · simp at hj
theorem findI_lt {q : List UInt8} {cs : List Cl} {k : Nat} (h : findI q cs = some k) : ∃ c, cs[k]? = some c ∧ c.id = q := by
  rw [findI, List.findIdx?_eq_some_iff_getElem] at h
  obtain ⟨hm, hp, _⟩ := h
  exact ⟨cs[k], List.getElem?_eq_getElem hm, by simpa [isId] using hp⟩
theorem findI_none {q : List UInt8} {cs : List Cl} (h : findI q cs = none) {c : Cl} (hc : c ∈ cs) : isId q c = false := by
  rw [findI, List.findIdx?_eq_none_iff] at h
  exact h c hc
/-- what the look-up answers -/
def findV (q : List UInt8) (cs : List Cl) : Value := match findI q cs with
  | some k => .tuple #[.int .i64 ((k : Int) + 1), .bool true]
  | none => .tuple #[.int .i64 0, .bool false]
/-- what a client has to show -/
def askL (c : Cl) : List UInt8 := if c.sec = 0 then [] else K9.keyL c.sec
def authE (cs : List Cl) (q s : List UInt8) : Nat × Nat := match findI q cs with
  | none => (0, 9)
  | some k => match cs[k]? with
    | none => (0, 9)
    | some c => if s = askL c then (k + 1, 0) else (0, 9)
end Go.Proofs.YtekbdfnbnpmclaaGreatDoor
