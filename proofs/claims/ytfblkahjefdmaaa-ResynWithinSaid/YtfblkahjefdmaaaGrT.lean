/- Plain law: the patterns that are made of a row of numbers are rows of elements. No program in sight. -/
import Derived.Test.YtfblkahjefdmaaaGrG
import Derived.Test.YtfblkahjefdmaaaTaM
namespace Go.Proofs.Ytfblkahjefdmaaa.RX
open TP (one l1 l2 l3 l4 l5 lr)

theorem one_mem (ts : List Int) (i : Nat) {l : List (List Int)} (h : 1 ≤ l.length) : (one ts i l).1 ∈ l := by
  have := TP.next_lt ts i h
  unfold one
  rw [List.getD_eq_getElem?_getD, List.getElem?_eq_getElem this]
  exact List.getElem_mem this

/-- As many nodes, whatever the groups so far. -/
def Uni (X : Sp) : Prop := ∀ c c', (X.nodes c).length = (X.nodes c').length
/-- An atom on every level from k on. -/
def AtomF (k : Nat) (x : List Int) : Prop := ∃ A : Sp, A.txt = x ∧ Uni A ∧ ∀ n, k ≤ n → Atom n A
def RowF (k : Nat) (x : List Int) : Prop := ∃ Xs : List Sp, rowTxt Xs = x ∧ (∀ X ∈ Xs, Uni X) ∧ ∀ n, k ≤ n → ∀ X ∈ Xs, Item n X
theorem AtomF.set {k : Nat} {txt set : List Int} {ng : Bool} (h : SetOk txt ng set) (hb : Begins txt) (h1 : txt.head? ≠ some 94) (h2 : txt.head? ≠ some 36) : AtomF k txt := ⟨_, rfl, fun _ _ => rfl, fun _ _ => atom_set hb h1 h2 h⟩
theorem AtomF.sign {k : Nat} {c : Int} (h : c ≠ 42 ∧ c ≠ 43 ∧ c ≠ 63 ∧ c ≠ 123 ∧ c ≠ 40 ∧ c ≠ 91 ∧ c ≠ 92 ∧ c ≠ 46) (h2 : c ≠ -1 ∧ c ≠ 124 ∧ c ≠ 41 ∧ c ≠ 94 ∧ c ≠ 36) : AtomF k [c] :=
  AtomF.set (set_sign h) ⟨c, [], rfl, by omega⟩ (by simp; omega) (by simp; omega)
theorem RowF.nil_ {k : Nat} : RowF k [] := ⟨[], rfl, by simp, by simp⟩
theorem RowF.one {k : Nat} {x : List Int} (h : ∃ X : Sp, X.txt = x ∧ Uni X ∧ ∀ n, k ≤ n → Item n X) : RowF k x := by
  obtain ⟨X, rfl, hu, h⟩ := h
  exact ⟨[X], by simp [rowTxt], fun Y hY => by simp at hY; subst hY; exact hu, fun n hn Y hY => by simp at hY; subst hY; exact h n hn⟩
theorem RowF.append {k : Nat} {x y : List Int} (h : RowF k x) (h' : RowF k y) : RowF k (x ++ y) := by
  obtain ⟨Xs, rfl, hu, h⟩ := h
  obtain ⟨Ys, rfl, hu', h'⟩ := h'
  refine ⟨Xs ++ Ys, by simp [rowTxt], fun X hX => ?_, fun n hn X hX => ?_⟩
  · rcases List.mem_append.1 hX with hX | hX
    · exact hu X hX
    · exact hu' X hX
  rcases List.mem_append.1 hX with hX | hX
  · exact h n hn X hX
  · exact h' n hn X hX
theorem RowF.mono {k k' : Nat} {x : List Int} (h : RowF k x) (hk : k ≤ k') : RowF k' x := by
  obtain ⟨Xs, e, hu, h⟩ := h; exact ⟨Xs, e, hu, fun n hn => h n (Nat.le_trans hk hn)⟩

theorem l1_ok {k : Nat} : ∀ x ∈ l1, AtomF k x := by
  intro x hx
  simp only [l1, List.mem_cons, List.not_mem_nil, or_false] at hx
  rcases hx with rfl | rfl | rfl | rfl | rfl | rfl | rfl
  · exact AtomF.sign (by decide) (by decide)
  · exact AtomF.sign (by decide) (by decide)
  · exact AtomF.sign (by decide) (by decide)
  · exact AtomF.set set_dot ⟨46, [], rfl, by decide⟩ (by decide) (by decide)
  · exact AtomF.sign (by decide) (by decide)
  · exact AtomF.sign (by decide) (by decide)
  · exact AtomF.sign (by decide) (by decide)
theorem l2_ok {k : Nat} : ∀ x ∈ l2, AtomF k x := by
  intro x hx
  simp only [l2, List.mem_cons, List.not_mem_nil, or_false] at hx
  rcases hx with rfl | rfl | rfl | rfl | rfl | rfl | rfl | rfl | rfl
  · exact AtomF.set set_w ⟨92, _, rfl, by decide⟩ (by decide) (by decide)
  · exact AtomF.set set_d ⟨92, _, rfl, by decide⟩ (by decide) (by decide)
  · exact AtomF.set set_s ⟨92, _, rfl, by decide⟩ (by decide) (by decide)
  · exact AtomF.set set_abc ⟨91, _, rfl, by decide⟩ (by decide) (by decide)
  · exact AtomF.set set_nab ⟨91, _, rfl, by decide⟩ (by decide) (by decide)
  · exact AtomF.set set_wd ⟨91, _, rfl, by decide⟩ (by decide) (by decide)
  · exact AtomF.set set_esc ⟨92, _, rfl, by decide⟩ (by decide) (by decide)
  · exact AtomF.set set_W ⟨92, _, rfl, by decide⟩ (by decide) (by decide)
  · exact AtomF.set set_ad ⟨91, _, rfl, by decide⟩ (by decide) (by decide)
theorem rowNodes_len : ∀ {Xs : List Sp}, (∀ X ∈ Xs, Uni X) → ∀ c c', (rowNodes c Xs).flatten.length = (rowNodes c' Xs).flatten.length
  | [], _, _, _ => rfl
  | X :: Xs, h, c, c' => by
    rw [rowNodes, rowNodes, List.flatten_cons, List.flatten_cons, List.length_append, List.length_append, h X (by simp) c c', rowNodes_len (fun Y hY => h Y (by simp [hY])) (c + X.ng) (c' + X.ng)]
theorem uni_row {Xs : List Sp} (h : ∀ X ∈ Xs, Uni X) : Uni (rowSp Xs) := fun c c' => by
  show (under _ _).length = (under _ _).length
  rw [under_len, under_len, rowNodes_len h c c']
theorem uni_alt2 {Xs Ys : List Sp} (h : ∀ X ∈ Xs, Uni X) (h' : ∀ X ∈ Ys, Uni X) : Uni (alt2Sp Xs Ys) := fun c c' => by
  show (under _ _).length = (under _ _).length
  rw [under_len, under_len]
  simp only [List.flatten_cons, List.flatten_nil, List.append_nil, List.length_append]
  rw [uni_row h c c', uni_row h' (c + rowNg Xs) (c' + rowNg Xs)]
theorem uni_grp {cap : Bool} {A : Sp} (h : Uni A) : Uni (grpSp cap A) := fun c c' => by
  show (under _ _).length = (under _ _).length
  rw [under_len, under_len]
  simp only [List.flatten_cons, List.flatten_nil, List.append_nil]
  rw [h _ (c' + if cap then 1 else 0)]
theorem uni_rep {A : Sp} {r : Rp} (h : Uni A) : Uni (withRep A r) := fun c c' => by
  show (under _ _).length = (under _ _).length
  rw [under_len, under_len]
  simp only [List.flatten_cons, List.flatten_nil, List.append_nil]
  rw [h c c']
theorem AtomF.grp {k : Nat} {x : List Int} (h : RowF k x) (cap : Bool) : AtomF (k + 1) (40 :: ((if cap then [] else [63, 58]) ++ x ++ [41])) := by
  obtain ⟨Xs, rfl, hu, h⟩ := h
  refine ⟨grpSp cap (rowSp Xs), rfl, uni_grp (uni_row hu), fun n hn => ?_⟩
  obtain ⟨m, rfl⟩ : ∃ m, n = m + 1 := ⟨n - 1, by omega⟩
  have hX := h m (by omega)
  cases cap with
  | false => exact grp_free (alt1_read hX)
  | true => exact grp_cap (alt1_read hX) (follow_row hX (by unfold RowStop; rfl))
theorem AtomF.grp2 {k : Nat} {x y : List Int} (h : RowF k x) (h' : RowF k y) (cap : Bool) : AtomF (k + 1) (40 :: ((if cap then [] else [63, 58]) ++ (x ++ (124 :: y)) ++ [41])) := by
  obtain ⟨Xs, rfl, hu, h⟩ := h
  obtain ⟨Ys, rfl, hu', h'⟩ := h'
  refine ⟨grpSp cap (alt2Sp Xs Ys), rfl, uni_grp (uni_alt2 hu hu'), fun n hn => ?_⟩
  obtain ⟨m, rfl⟩ : ∃ m, n = m + 1 := ⟨n - 1, by omega⟩
  have hX := h m (by omega)
  have hY := h' m (by omega)
  cases cap with
  | false => exact grp_free (alt2_read hX hY)
  | true =>
    refine grp_cap (alt2_read hX hY) ?_
    show Follow ((rowTxt Xs ++ (124 :: rowTxt Ys)) ++ [41])
    rw [List.append_assoc]
    exact follow_row hX (by unfold RowStop; rfl)
theorem l5_ok {k : Nat} : ∀ x ∈ l5, AtomF (k + 1) x := by
  intro x hx
  simp only [l5, List.mem_cons, List.not_mem_nil, or_false] at hx
  rcases hx with rfl | rfl | rfl | rfl
  · exact AtomF.sign (by decide) (by decide)
  · exact AtomF.sign (by decide) (by decide)
  · obtain ⟨A, hA, hu, h⟩ := AtomF.sign (k := k) (c := 99) (by decide) (by decide)
    exact AtomF.grp (RowF.one ⟨A, hA, hu, fun n hn => item_bare (h n hn)⟩) true
  · obtain ⟨A, hA, hu, h⟩ := AtomF.sign (k := k) (c := 97) (by decide) (by decide)
    exact AtomF.grp (RowF.one ⟨A, hA, hu, fun n hn => item_bare (h n hn)⟩) true
theorem l4_ok {k : Nat} : ∀ x ∈ l4, RowF k x := by
  intro x hx
  simp only [l4, List.mem_cons, List.not_mem_nil, or_false] at hx
  rcases hx with rfl | rfl | rfl | rfl
  · exact RowF.one ⟨_, rfl, fun _ _ => rfl, fun n _ => item_edge (.inl ⟨rfl, rfl⟩)⟩
  · exact RowF.one ⟨_, rfl, fun _ _ => rfl, fun n _ => item_edge (.inr ⟨rfl, rfl⟩)⟩
  · exact RowF.nil_
  · exact RowF.nil_
theorem lr_ok : ∀ x ∈ lr, x = [] ∨ ∃ r : Rp, r.txt = x ∧ RepOk r := by
  intro x hx
  simp only [lr, List.mem_cons, List.not_mem_nil, or_false] at hx
  rcases hx with rfl | rfl | rfl | rfl | rfl | rfl | rfl | rfl | rfl
  · exact .inl rfl
  · exact .inl rfl
  · exact .inr ⟨_, rfl, rep_star⟩
  · exact .inr ⟨_, rfl, rep_plus⟩
  · exact .inr ⟨_, rfl, rep_quest⟩
  · exact .inr ⟨_, rfl, rep_lazy⟩
  · exact .inr ⟨_, rfl, rep_12⟩
  · exact .inr ⟨_, rfl, rep_2⟩
  · exact .inr ⟨_, rfl, rep_0⟩
theorem AtomF.rep {k : Nat} {x : List Int} (h : AtomF k x) (ts : List Int) (i : Nat) : RowF k (x ++ (TP.one ts i lr).1) := by
  obtain ⟨A, rfl, hu, h⟩ := h
  rcases lr_ok _ (one_mem ts i (l := lr) (by decide)) with e | ⟨r, e, hr⟩
  · rw [e, List.append_nil]; exact RowF.one ⟨A, rfl, hu, fun n hn => item_bare (h n hn)⟩
  · rw [← e]; exact RowF.one ⟨withRep A r, rfl, uni_rep hu, fun n hn => item_rep (h n hn) hr⟩

theorem item_row {ts : List Int} {deep : Bool} {sub : Nat → List Int × Nat} {k : Nat} (hs : deep = true → ∀ i, RowF k (sub i).1) (i : Nat) : RowF (k + 1) (TP.item ts deep sub i).1 := by
  unfold TP.item
  simp only
  split
  · exact (l1_ok _ (one_mem ts _ (l := l1) (by decide))).rep ts _
  split
  · exact (l2_ok _ (one_mem ts _ (l := l2) (by decide))).rep ts _
  split
  · rename_i h
    refine AtomF.rep ?_ ts _
    have hsub := hs h.2
    unfold TP.inner
    simp only
    have h3 := one_mem ts (TP.next ts i 10).2 (l := l3) (by decide)
    simp only [l3, List.mem_cons, List.not_mem_nil, or_false] at h3
    split
    · rcases h3 with e | e
      · have := AtomF.grp2 (hsub (TP.one ts (TP.next ts i 10).2 l3).2) (hsub (TP.next ts (sub (TP.one ts (TP.next ts i 10).2 l3).2).2 3).2) true
        simpa [l3, e] using this
      · have := AtomF.grp2 (hsub (TP.one ts (TP.next ts i 10).2 l3).2) (hsub (TP.next ts (sub (TP.one ts (TP.next ts i 10).2 l3).2).2 3).2) false
        simpa [l3, e] using this
    · rcases h3 with e | e
      · have := AtomF.grp (hsub (TP.one ts (TP.next ts i 10).2 l3).2) true
        simpa [l3, e] using this
      · have := AtomF.grp (hsub (TP.one ts (TP.next ts i 10).2 l3).2) false
        simpa [l3, e] using this
  split
  · exact l4_ok _ (one_mem ts _ (l := l4) (by decide))
  · exact (l5_ok _ (one_mem ts _ (l := l5) (by decide))).rep ts _
theorem loop_row {ts : List Int} {deep : Bool} {sub : Nat → List Int × Nat} {k : Nat} (hs : deep = true → ∀ i, RowF k (sub i).1) : ∀ (n i : Nat) (out : List Int), RowF (k + 1) out → RowF (k + 1) (TP.loop ts deep sub n i out).1
  | 0, _, _, h => h
  | n + 1, i, out, h => by
    unfold TP.loop
    exact loop_row hs n _ _ (h.append (item_row hs i))
/-- Each pattern that is made is a row of elements, on every level that leaves room for its depth. -/
theorem pat_row (ts : List Int) : ∀ (d i : Nat), RowF (d + 1) (TP.pat ts d i).1
  | 0, i => loop_row (k := 0) (fun h => by cases h) _ _ _ RowF.nil_
  | d + 1, i => loop_row (k := d + 1) (fun _ i => pat_row ts d i) _ _ _ RowF.nil_
end Go.Proofs.Ytfblkahjefdmaaa.RX
