import Derived.Test.YtbkembafdhjbkaaQp
set_option linter.unusedVariables false
namespace Go.Proofs.Ytbkembafdhjbkaa
open Go.RowKit
theorem rat_walkB (rs : List Rc) (A : Option Addr) (c : Nat) (kind key : Int) (w : World) (hr : RecsAt w A c rs) :
    Calls Try.prog 44 #[.slice A rs.length c, .int .i64 kind, .int .i64 key] w fun e w' => e = .returned (.int .i64 (idxI (isAt kind key) rs)) ∧ Below w.heap.size w w' := by
  refine (rat_walk rs A c kind key w hr).mono ?_
  rintro _ _ ⟨rfl, rfl⟩
  exact ⟨rfl, Below.refl _ _⟩
set_option maxHeartbeats 1000000 in
theorem rfind_walk (rs : List Rc) (A : Option Addr) (c : Nat) (now kind key : Int) (w : World) (hr : RecsAt w A c rs) :
    Calls Try.prog 23 #[.slice A rs.length c, .int .i64 now, .int .i64 kind, .int .i64 key] w fun e w' => e = .returned (.tuple #[.agg ((findO rs now kind key).getD Rc.none).arr, .bool (findO rs now kind key).isSome]) ∧ Below w.heap.size w w' := by
  have hb := (Below.refl w.heap.size w).alloc (Nat.le_refl _) (.cells Rc.none.arr 32)
  have hblk := Blk.new w 32 Rc.none.arr
  have hl1 := liveL_le now rs
  have hm := hr.2.1
  have cl := Lib.hid (rlive_walk rs A c now _ (hr.below hb))
  clear hr
  go_enter Try.func23, Try.ntmps23
  go_wp2_with fail
  refine cl.out.mono ?_
  rintro _ w1 ⟨v, rfl, hown, hb1⟩
  obtain ⟨A1, c1, rfl, hr1⟩ := RecsAt.own hown (by omega)
  have hblk1 := hblk.below hb1 (by simp)
  replace hb := below_next hb hb1
  have ca := Lib.hid (rat_walkB _ A1 c1 kind key w1 hr1)
  clear hown hb1 hblk cl
  cases hi : (liveL now rs).findIdx? (isAt kind key) with
  | none =>
    rw [show idxI (isAt kind key) (liveL now rs) = -1 by rw [idxI, hi]] at ca
    have hv : Hid (findO rs now kind key = none) := by show _ = _; rw [findO, hi]
    clear hi
    go_wp2_with fail
    refine ca.out.mono ?_
    rintro _ w2 ⟨rfl, hbn⟩
    have hblk2 := hblk1.below hbn (by have := hblk1.lt; omega)
    replace hb := below_next hb hbn
    clear hbn hblk1 ca hr1
    go_wp2_with (refine wpList_store_blk rfl 32 _ _ rfl w.heap.size _ Rc.none.arr _ rfl rfl hblk2 rfl rec_size Rc.none.ones ?_)
    refine bodyPost_ret (results_rec_tmp Try.results23 _ _ w.heap.size _ Rc.none rfl hblk2.setRow) rfl ⟨?_, below_setRow hb (Nat.le_refl _) _⟩
    rw [hv.out]
    rfl
  | some i =>
    have hil : i < (liveL now rs).length := by
      rw [List.findIdx?_eq_some_iff_getElem] at hi
      exact hi.1
    rw [show idxI (isAt kind key) (liveL now rs) = (i : Int) by rw [idxI, hi]] at ca
    obtain ⟨r, hrk⟩ : ∃ r, (liveL now rs)[i]? = some r := ⟨(liveL now rs)[i], List.getElem?_eq_getElem hil⟩
    have hv : Hid (findO rs now kind key = some r) := by show _ = _; rw [findO, hi]; exact hrk
    obtain ⟨ad, rfl⟩ : ∃ ad, A1 = some ad := by obtain ⟨ad, h, _⟩ := hr1.2.2.2 (by omega); exact ⟨ad, h⟩
    have hi0 : ¬ (i : Int) < 0 := by omega
    clear hi
    go_wp2_with fail
    refine ca.out.mono ?_
    rintro _ w2 ⟨rfl, hbn⟩
    have hblk2 := hblk1.below hbn (by have := hblk1.lt; omega)
    have hra := Lib.hid (rec_at (hr1.below hbn).2.2 hrk)
    replace hb := below_next hb hbn
    clear hbn hblk1 ca hr1
    go_wp2_with (first
      | (refine wpList_load_rec rfl _ rfl (ad.add (i * 15)) rfl r hra.out ?_)
      | (refine wpList_store_blk rfl 32 _ _ rfl w.heap.size _ r.arr _ rfl rfl hblk2 rfl rec_size r.ones ?_))
    refine bodyPost_ret (results_rec_tmp Try.results23 _ _ w.heap.size _ r rfl hblk2.setRow) rfl ⟨?_, below_setRow hb (Nat.le_refl _) _⟩
    rw [hv.out]
    rfl

theorem findO_some (rs : List Rc) (now : Int) (r : Rc) : (changeI rs now r).isSome = (findO rs now r.kind r.key).isSome := by
  rw [changeI, findO]
  cases h : (liveL now rs).findIdx? (isAt r.kind r.key) with
  | none => rfl
  | some i =>
    rw [List.findIdx?_eq_some_iff_getElem] at h
    obtain ⟨hlt, _⟩ := h
    simp [List.getElem?_eq_getElem hlt]
set_option maxHeartbeats 1000000 in
theorem found_walk (rs : List Rc) (A : Option Addr) (c : Nat) (now : Int) (r : Rc) (w : World) (hr : RecsAt w A c rs) :
    Calls Try.prog 33 #[.slice A rs.length c, .int .i64 now, .agg r.arr] w fun e w' => e = .returned (.bool (findO rs now r.kind r.key).isSome) ∧ Below w.heap.size w w' := by
  have hb := (Below.refl w.heap.size w).alloc (Nat.le_refl _) (.cells r.arr 32)
  have hblk := Blk.new w 32 r.arr
  have h0 := r.at0
  have h1 := r.at1
  have cf := Lib.hid (rfind_walk rs A c now r.kind r.key _ (hr.below hb))
  obtain ⟨k, hk⟩ : ∃ k, r.kind = k := ⟨_, rfl⟩
  obtain ⟨q, hq⟩ : ∃ q, r.key = q := ⟨_, rfl⟩
  rw [hk] at h0 cf ⊢
  rw [hq] at h1 cf ⊢
  obtain ⟨o, ho⟩ : ∃ o, findO rs now k q = o := ⟨_, rfl⟩
  rw [ho] at cf ⊢
  clear hk hq ho hr hblk
  go_enter Try.func33, Try.ntmps33
  go_wp2_with fail
  refine cf.out.mono ?_
  rintro _ w1 ⟨rfl, hbn⟩
  replace hb := below_next hb hbn
  clear hbn cf
  go_wp2_with (refine wpList_store_fresh w1 rfl 32 _ _ rfl _ (o.getD Rc.none).arr _ rfl rfl rfl rec_size (Rc.ones _) ?_)
  go_ret
  exact ⟨rfl, hb.alloc hb.size _⟩
/-! the plain law of whatever is played -/
def Fine (now : Int) (rs : List Rc) : Prop := (∀ r ∈ rs, 1 ≤ r.kind ∧ r.kind ≤ 6) ∧ ((liveL now rs).map (·.key)).Nodup
theorem live_live (now : Int) (rs : List Rc) : liveL now (liveL now rs) = liveL now rs := by rw [liveL, liveL, List.filter_filter]; simp
theorem live_sub {now now' : Int} (h : now ≤ now') (rs : List Rc) : (liveL now' rs).Sublist (liveL now rs) := by
  have : liveL now' rs = (liveL now rs).filter fun r => decide (now' < r.till) := by
    rw [liveL, liveL, List.filter_filter]
    apply List.filter_congr
    intro x _
    by_cases hx : now' < x.till
    · have : now < x.till := by omega
      simp [hx, this]
    · simp [hx]
  rw [this]
  exact List.filter_sublist
theorem live_all {now : Int} {l : List Rc} (h : ∀ r ∈ l, now < r.till) : liveL now l = l := by
  rw [liveL, List.filter_eq_self]
  intro x hx
  simpa using h x hx
theorem live_mem {now : Int} {rs : List Rc} {r : Rc} (h : r ∈ liveL now rs) : r ∈ rs ∧ now < r.till := by
  rw [liveL, List.mem_filter] at h
  exact ⟨h.1, by simpa using h.2⟩
theorem Fine.later {now now' : Int} {rs : List Rc} (h : Fine now rs) (hn : now ≤ now') : Fine now' rs := ⟨h.1, h.2.sublist ((live_sub hn rs).map _)⟩
theorem Fine.sub {now : Int} {rs xs : List Rc} (h : Fine now rs) (hs : xs.Sublist rs) : Fine now xs := ⟨fun r hr => h.1 r (hs.mem hr), h.2.sublist ((hs.filter _).map _)⟩
theorem Fine.live {now : Int} {rs : List Rc} (h : Fine now rs) : Fine now (liveL now rs) := ⟨fun r hr => h.1 r (live_mem hr).1, by rw [live_live]; exact h.2⟩
theorem Fine.take {now kind key : Int} {rs : List Rc} (h : Fine now rs) : Fine now (takeL rs now kind key) := by
  unfold takeL
  split
  · exact h.live.sub (List.eraseIdx_sublist ..)
  · exact h
theorem Fine.revoke {now fam : Int} {rs : List Rc} (h : Fine now rs) : Fine now (revokeL fam rs) := h.sub List.filter_sublist
theorem Fine.put {now : Int} {rs : List Rc} {r : Rc} (h : Fine now rs) (hr : 1 ≤ r.kind ∧ r.kind ≤ 6) : Fine now (putL rs now r) := by
  unfold putL
  split
  · rename_i h0
    have hno : (liveL now rs).any (fun x => x.key == r.key) = false := by
      rw [putC] at h0
      split at h0
      · omega
      · split at h0
        · omega
        · rename_i hh; simpa using hh
    refine ⟨fun x hx => ?_, ?_⟩
    · rcases List.mem_append.1 hx with hx | hx
      · exact h.1 x (live_mem hx).1
      · rw [List.mem_singleton.1 hx]; exact hr
    · have hfull : (((liveL now rs) ++ [r]).map (·.key)).Nodup := by
        rw [List.map_append, List.nodup_append]
        refine ⟨h.2, by simp, ?_⟩
        intro a ha b hb e
        rw [List.mem_map] at ha
        obtain ⟨x, hx, rfl⟩ := ha
        simp at hb
        subst hb
        rw [List.any_eq_false] at hno
        exact hno x hx (by simpa using e)
      exact hfull.sublist (List.filter_sublist.map _)
  · exact h
theorem set_keys {l : List Rc} {i : Nat} {r x : Rc} (hx : l[i]? = some x) (hk : x.key = r.key) : (l.set i r).map (·.key) = l.map (·.key) := by
  apply List.ext_getElem?
  intro j
  rw [List.getElem?_map, List.getElem?_map, List.getElem?_set]
  by_cases h : i = j
  · subst h
    rw [if_pos rfl, hx, if_pos (List.getElem?_eq_some_iff.1 hx).1]
    simp [hk]
  · rw [if_neg h]
theorem Fine.change {now : Int} {rs : List Rc} {r : Rc} (h : Fine now rs) (hr : 1 ≤ r.kind ∧ r.kind ≤ 6) : Fine now (changeL rs now r) := by
  unfold changeL
  split
  · rename_i i hi
    rw [changeI, List.findIdx?_eq_some_iff_getElem] at hi
    obtain ⟨hlt, hp, _⟩ := hi
    have hk : (liveL now rs)[i].key = r.key := by
      rw [isAt, Bool.and_eq_true] at hp
      simpa using hp.2
    refine ⟨fun x hx => ?_, ?_⟩
    · rcases List.mem_or_eq_of_mem_set hx with hx | rfl
      · exact h.1 x (live_mem hx).1
      · exact hr
    · have hfull : (((liveL now rs).set i r).map (·.key)).Nodup := by
        rw [set_keys (List.getElem?_eq_getElem hlt) hk]
        exact h.2
      exact hfull.sublist (List.filter_sublist.map _)
  · exact h
theorem take_gone {now kind key : Int} {rs : List Rc} (h : Fine now rs) : (findO (takeL rs now kind key) now kind key).isSome = false := by
  have hnone : (liveL now (takeL rs now kind key)).findIdx? (isAt kind key) = none := by
    unfold takeL idxO
    cases hi : (liveL now rs).findIdx? (isAt kind key) with
    | none => exact hi
    | some i =>
      simp only
      rw [List.findIdx?_eq_none_iff]
      intro x hx
      rw [List.findIdx?_eq_some_iff_getElem] at hi
      obtain ⟨hlt, hp, _⟩ := hi
      have hx2 := (live_mem hx).1
      rw [List.mem_eraseIdx_iff_getElem] at hx2
      obtain ⟨j, hj, hne, rfl⟩ := hx2
      cases hq : isAt kind key (liveL now rs)[j] with
      | false => rfl
      | true =>
        exfalso
        rw [isAt, Bool.and_eq_true] at hp hq
        have e : (liveL now rs)[i].key = (liveL now rs)[j].key := by
          have h1 : (liveL now rs)[i].key = key := by simpa using hp.2
          have h2 : (liveL now rs)[j].key = key := by simpa using hq.2
          rw [h1, h2]
        have hn := List.pairwise_iff_getElem.1 h.2
        rcases Nat.lt_trichotomy i j with hij | hij | hij
        · exact hn i j (by simpa using hlt) (by simpa using hj) hij (by simpa using e)
        · exact hne hij.symm
        · exact hn j i (by simpa using hj) (by simpa using hlt) hij (by simpa using e.symm)
  rw [findO, hnone]
  rfl
theorem take_less {now kind key : Int} {rs : List Rc} (h : (findO rs now kind key).isSome = true) : ((liveL now (takeL rs now kind key)).length : Int) = ((liveL now rs).length : Int) - 1 := by
  rw [findO] at h
  unfold takeL idxO
  cases hi : (liveL now rs).findIdx? (isAt kind key) with
  | none => rw [hi] at h; cases h
  | some i =>
    simp only
    rw [List.findIdx?_eq_some_iff_getElem] at hi
    obtain ⟨hlt, _⟩ := hi
    rw [live_all (fun x hx => (live_mem ((List.eraseIdx_sublist ..).mem hx)).2), List.length_eraseIdx, if_pos hlt]
    omega
theorem put_ok {now : Int} {rs : List Rc} {r : Rc} (h : putC rs now r = 0) : putL rs now r = liveL now rs ++ [r] := by rw [putL, if_pos h]
theorem room_less {now : Int} {rs : List Rc} {r : Rc} (h : Fine now rs) (hr : r ∈ liveL now rs) : roomI rs now r.kind ≤ mostI r.kind - 1 := by
  have hk := h.1 r (live_mem hr).1
  have hm : 6 ≤ mostI r.kind := by
    unfold mostI
    repeat (split; · omega)
    omega
  have hc : 1 ≤ (kindL r.kind (liveL now rs)).length := by
    have : r ∈ kindL r.kind (liveL now rs) := by
      rw [kindL, List.mem_filter]
      exact ⟨hr, by simp⟩
    exact List.length_pos_of_mem this
  rw [roomI]
  omega
theorem key_ne {now : Int} {rs : List Rc} {j k : Nat} {x y : Rc} (h : Fine now rs) (hjk : j < k) (hx : (liveL now rs)[j]? = some x) (hy : (liveL now rs)[k]? = some y) : (x.key == y.key) = false := by
  rw [beq_eq_false_iff_ne]
  intro e
  have hn := List.pairwise_iff_getElem.1 h.2
  obtain ⟨hj, ej⟩ := List.getElem?_eq_some_iff.1 hx
  obtain ⟨hk, ek⟩ := List.getElem?_eq_some_iff.1 hy
  refine hn j k (by simpa using hj) (by simpa using hk) hjk ?_
  simp only [List.getElem_map, ej, ek]
  exact e
theorem takeL_len (rs : List Rc) (now kind key : Int) : (takeL rs now kind key).length ≤ rs.length := by
  unfold takeL
  split
  · have := (List.eraseIdx_sublist (liveL now rs) (by assumption)).length_le
    have := liveL_le now rs
    omega
  · omega
theorem changeL_len (rs : List Rc) (now : Int) (r : Rc) : (changeL rs now r).length ≤ rs.length := by
  unfold changeL
  split
  · rw [List.length_set]; exact liveL_le now rs
  · omega
theorem putL_len (rs : List Rc) (now : Int) (r : Rc) : (putL rs now r).length ≤ rs.length + 1 := by
  unfold putL
  split
  · have := liveL_le now rs
    simp
    omega
  · omega
end Go.Proofs.Ytbkembafdhjbkaa
