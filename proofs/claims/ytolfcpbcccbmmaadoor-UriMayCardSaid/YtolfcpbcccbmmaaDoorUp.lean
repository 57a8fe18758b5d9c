/- An address that comes in as an argument, read from memory. No condition of its own. -/
import Derived.Test.YtolfcpbcccbmmaaDoorHs
import Derived.Test.YtolfcpbcccbmmaaDoorUo
set_option linter.unusedVariables false
set_option linter.unusedSimpArgs false
set_option maxRecDepth 20000
namespace Go.Proofs.YtolfcpbcccbmmaaDoor
open Go.RowKit Go.ChangeShapes Go.WideShapes Go.ChangeAt
section
variable {H : Type} {enc : TypeId × Value → H} {w : World} {base n : Nat} {spare : Nat → Bool} {held : Bool}
theorem fields_pre {A : Option Addr} {len cap n : Nat} {x : DataW H × List MemPlace} (h : DataW.trod enc Tryd.prog w base spare held n 22 [.slice A len cap] = some x) :
    ∃ rs : List Fl, rs.length = min len 4001 ∧ FsAt w A cap rs ∧ len ≤ cap := by
  rcases Go.Deep.open_slice Tryd.underlying22 h with ⟨h0, _⟩ | ⟨a, l, c, m, k, D, Pl, h0, hb, hl, hc, hmm, _, hx⟩
  · simp at h0
    obtain ⟨rfl, rfl, rfl⟩ := h0
    exact ⟨[], rfl, FsAt.none_ w none 0, Nat.le_refl _⟩
  · simp at h0
    obtain ⟨rfl, rfl, rfl⟩ := h0
    have hlm : len ≤ m := by rw [hmm]; split <;> omega
    obtain ⟨R, hR⟩ := Go.Deep.choose_lt (α := Fl) (p := fun i r => w.cells? base (a.add (i * 2)) 2 = some r.cells) (fun i hi => by
      obtain ⟨cs', h1, h2⟩ := hx i hi
      rw [cells_field] at h1
      obtain ⟨r, rfl⟩ := field_trod h2
      exact ⟨r, h1⟩)
    obtain ⟨q, hq⟩ : ∃ q, min len 4001 = q := ⟨_, rfl⟩
    have hqm : q ≤ m := by omega
    rw [hq]
    refine ⟨(List.range q).map R, by simp, ⟨by simp; omega, by simp; omega, ?_, fun h => ?_⟩, hl⟩
    · rw [fCells_len]; simp; omega
    · have h0 : 0 < q := by simpa using h
      refine ⟨a, rfl, ?_, ?_⟩
      · obtain ⟨_, _, h3⟩ := World.cells?_some (hR 0 (by omega))
        have := h3 0 (by omega)
        have h4 := cell_lt (this.trans (show (R 0).cells[0]? = some _ from rfl))
        simpa [Addr.add] using h4
      · intro j u hu
        obtain ⟨r, h1, h2⟩ := fCells_flat _ _ _ hu
        rw [List.getElem?_map] at h1
        have hj : j / 2 < q := by
          rcases Nat.lt_or_ge (j / 2) q with q1 | q1
          · exact q1
          · rw [List.getElem?_eq_none (by simpa using q1)] at h1; simp at h1
        rw [List.getElem?_range hj] at h1
        simp at h1
        obtain ⟨_, _, h3⟩ := World.cells?_some (hR (j / 2) (by omega))
        have := h3 (j % 2) (by omega)
        rw [h1, h2] at this
        rw [show a.add j = (a.add (j / 2 * 2)).add (j % 2) by rw [Go.Deep.add_add]; congr 1; omega]
        exact this
theorem cells_fields : Tryd.prog.cellsOf 22 = 1 := by kernel_rfl
theorem cells_uri : Tryd.prog.cellsOf 24 = 3 := by kernel_rfl
theorem uri_trod {cs : List Value} {x : DataW H × List MemPlace} (h : DataW.trod enc Tryd.prog w base spare held n 24 cs = some x) :
    ∃ (s t : ByteArray) (A : Option Addr) (N c : Nat), cs = [.string s, .string t, .slice A N c] ∧ ∃ fs : List Fl, fs.length = min N 4001 ∧ FsAt w A c fs ∧ N ≤ c := by
  obtain ⟨xs, k, _, _, hlen, hl, hf⟩ := DataW.trod_struct Tryd.underlying24 h
  rw [cells_uri] at hlen
  obtain ⟨x0, e0⟩ := some_of (l := xs) (i := 0) (by rw [hl]; decide)
  obtain ⟨x1, e1⟩ := some_of (l := xs) (i := 1) (by rw [hl]; decide)
  obtain ⟨x2, e2⟩ := some_of (l := xs) (i := 2) (by rw [hl]; decide)
  have g0 := (hf 0 _ rfl).trans e0
  have g1 := (hf 1 _ rfl).trans e1
  have g2 := (hf 2 _ rfl).trans e2
  clear hf e0 e1 e2
  match cs, hlen with
  | [c0, c1, c2], _ =>
    simp only [List.getElem_toArray, List.getElem_cons_zero, List.getElem_cons_succ, cells_string, cells_fields, List.drop_zero, List.drop_succ_cons, List.take_succ_cons, List.take_zero] at g0 g1 g2
    obtain ⟨s, rfl⟩ := cell_string g0
    obtain ⟨t, rfl⟩ := cell_string g1
    rcases Go.Deep.open_slice Tryd.underlying22 g2 with ⟨h0, _⟩ | ⟨a, l, c, m, k2, D, Pl, h0, _⟩
    · simp at h0
      subst h0
      exact ⟨s, t, none, 0, 0, rfl, fields_pre g2⟩
    · simp at h0
      subst h0
      exact ⟨s, t, some a, l, c, rfl, fields_pre g2⟩
end
end Go.Proofs.YtolfcpbcccbmmaaDoor
