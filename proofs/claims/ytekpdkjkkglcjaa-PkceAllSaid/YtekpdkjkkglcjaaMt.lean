/- Plain words of sixty-four signs, the document's way: numbers of three bytes, the place of a sign. No program in sight, no condition. -/
import Derived.Test.YtekpdkjkkglcjaaMs
set_option linter.unusedVariables false
set_option linter.unusedSimpArgs false
set_option maxRecDepth 20000
namespace Go.Proofs.Ytekpdkjkkglcjaa.B64
theorem index_at : ∀ (l : List UInt8) (c : UInt8) (i : Nat), i < l.length → l.getD i 0 = c → (∀ j, j < i → l.getD j 0 ≠ c) → Lib.indexByte l c = i
  | [], _, i, h, _, _ => by simp at h
  | b :: l, c, 0, _, h, _ => by simp at h; simp [Lib.indexByte, h]
  | b :: l, c, i + 1, h, h1, h2 => by
    have hb : (b == c) = false := by have := h2 0 (by omega); simpa using this
    have ih := index_at l c i (by simpa using h) (by simpa using h1) (fun j hj => by have := h2 (j + 1) (by omega); simpa using this)
    rw [Lib.indexByte, hb, ih]
    simp
theorem index_none : ∀ (l : List UInt8) (c : UInt8), (∀ j, j < l.length → l.getD j 0 ≠ c) → Lib.indexByte l c = -1
  | [], _, _ => rfl
  | b :: l, c, h => by
    have hb : (b == c) = false := by have := h 0 (by simp); simpa using this
    have ih := index_none l c (fun j hj => by have := h (j + 1) (by simpa using hj); simpa using this)
    rw [Lib.indexByte, hb, ih]
    simp
/-- the first k bytes as one number -/
def volTo (l : List UInt8) : Nat → Nat
  | 0 => 0
  | k + 1 => volTo l k * 256 + (l.getD k 0).toNat
theorem volTo_lt (l : List UInt8) : ∀ k, volTo l k < 256 ^ k
  | 0 => by simp [volTo]
  | k + 1 => by
    have := volTo_lt l k
    have := byte_lt l k
    rw [volTo, Nat.pow_succ]
    omega
theorem volTo_three (l : List UInt8) : volTo l 3 = vol l := by simp only [volTo, vol]; omega
theorem vol_take (l : List UInt8) : vol (l.take 3) = vol l := by
  match l with
  | [] => rfl
  | [a] => rfl
  | [a, b] => rfl
  | a :: b :: c :: r => rfl
theorem sxt_take (l : List UInt8) (k : Nat) : sxt (l.take 3) k = sxt l k := by rw [sxt, vol_take, sxt]
theorem encTo_more (l : List UInt8) (k n : Nat) (hk : k < l.length) (hn : n = min 3 (l.length - k)) : encTo l (k + n) 0 = encTo l (k + 3) 0 := by
  rw [encTo_zero, encTo_zero]
  rcases Nat.lt_or_ge (l.length - k) 3 with h | h
  · rw [List.take_of_length_le (by omega), List.take_of_length_le (by omega)]
  · rw [show n = 3 by omega]
/-- the sign of a number's sextet -/
def sxv (v k : Nat) : Nat := v / 64 ^ (3 - k) % 64
theorem sxv_vol (l : List UInt8) (k : Nat) : sxv (volTo l 3) k = sxt (l.take 3) k := by rw [volTo_three, sxt_take]; rfl
theorem and63 (x : Nat) (h : x < 4611686018427387904) : bits .and .i64 (x : Int) 63 = ((x % 64 : Nat) : Int) := by
  have := bits_mask .i64 62 (by decide) (fun n h0 h1 => by rw [IntKind.wrap_i64]; have : (2:Int)^62 = 4611686018427387904 := by decide
                                                           omega) 6 (by decide) (x : Int) (by omega) (by have : (2:Int)^62 = 4611686018427387904 := by decide
                                                                                                         omega)
  simpa using this
theorem shr_and (v j : Nat) (hj : j ≤ 3) (hv : v < 16777216) : bits .and .i64 ((v : Int) / 2 ^ (18 - 6 * j)) 63 = ((sxv v j : Nat) : Int) := by
  have e : (v : Int) / 2 ^ (18 - 6 * j) = ((v / 64 ^ (3 - j) : Nat) : Int) := by
    rw [show (64 : Nat) = 2 ^ 6 from rfl, ← Nat.pow_mul, show 6 * (3 - j) = 18 - 6 * j by omega]
    simp
  have : v / 64 ^ (3 - j) ≤ v := Nat.div_le_self _ _
  rw [e, and63 _ (by omega)]
  rfl
theorem and_mask (x i : Nat) (hi : i ≤ 62) (h : x < 4611686018427387904) : bits .and .i64 (x : Int) ((2 : Int) ^ i - 1) = ((x % 2 ^ i : Nat) : Int) := by
  have := bits_mask .i64 62 (by decide) (fun n h0 h1 => by
    rw [IntKind.wrap_i64]
    have : (2:Int)^62 = 4611686018427387904 := by decide
    omega) i hi (x : Int) (by omega) (by
    have : (2:Int)^62 = 4611686018427387904 := by decide
    omega)
  simpa using this
theorem and0 (x : Nat) (h : x < 4611686018427387904) : bits .and .i64 (x : Int) 0 = ((0 : Nat) : Int) := by
  have := and_mask x 0 (by decide) h
  simpa [Nat.mod_one] using this
theorem and3 (x : Nat) (h : x < 4611686018427387904) : bits .and .i64 (x : Int) 3 = ((x % 4 : Nat) : Int) := and_mask x 2 (by decide) h
theorem and15 (x : Nat) (h : x < 4611686018427387904) : bits .and .i64 (x : Int) 15 = ((x % 16 : Nat) : Int) := and_mask x 4 (by decide) h
/-- the document's reader, a sign at a time: the bytes, the bits over, how many -/
structure RS where
  out : List UInt8
  v : Nat
  bits : Nat
def rstep (s : RS) (c : UInt8) : RS :=
  if s.bits + 6 ≥ 8 then ⟨s.out ++ [UInt8.ofNat ((s.v * 64 + num c) / 2 ^ (s.bits - 2))], (s.v * 64 + num c) % 2 ^ (s.bits - 2), s.bits - 2⟩
  else ⟨s.out, s.v * 64 + num c, s.bits + 6⟩
def rst (l : List UInt8) : RS := l.foldl rstep ⟨[], 0, 0⟩
def RS.ok (s : RS) : Prop := s.v < 2 ^ s.bits ∧ (s.bits = 0 ∨ s.bits = 2 ∨ s.bits = 4 ∨ s.bits = 6)
theorem rstep_ok {s : RS} (h : s.ok) (c : UInt8) : (rstep s c).ok := by
  have hn := num_lt c
  obtain ⟨o, v, b⟩ := s
  obtain ⟨h1, h2⟩ := h
  simp only at h1 h2
  rcases h2 with rfl | rfl | rfl | rfl
  · simp [rstep, RS.ok]; omega
  · simp [rstep, RS.ok, Nat.mod_one]
  · simp [rstep, RS.ok]; omega
  · simp [rstep, RS.ok]; omega
theorem rst_ok (l : List UInt8) : (rst l).ok := by
  have : ∀ (l : List UInt8) (s : RS), s.ok → (l.foldl rstep s).ok := by
    intro l
    induction l with
    | nil => exact fun s h => h
    | cons c l ih => exact fun s h => ih _ (rstep_ok h c)
  exact this l _ ⟨by decide, .inl rfl⟩
theorem rst_snoc (l : List UInt8) (c : UInt8) : rst (l ++ [c]) = rstep (rst l) c := by simp [rst]
theorem rst_le (l : List UInt8) : (rst l).out.length ≤ l.length := by
  have : ∀ (l : List UInt8) (s : RS), (l.foldl rstep s).out.length ≤ s.out.length + l.length := by
    intro l
    induction l with
    | nil => exact fun s => by simp
    | cons c l ih =>
      intro s
      have := ih (rstep s c)
      have h2 : (rstep s c).out.length ≤ s.out.length + 1 := by unfold rstep; split <;> simp
      simp only [List.foldl_cons, List.length_cons]
      omega
  simpa [rst] using this l ⟨[], 0, 0⟩
def rdec (l : List UInt8) : Option (List UInt8) := if l.all isSign = true ∧ enc (rst l).out = l then some (rst l).out else none
theorem sxv_lt (v k : Nat) : sxv v k < 64 := Nat.mod_lt _ (by decide)
end Go.Proofs.Ytekpdkjkkglcjaa.B64
