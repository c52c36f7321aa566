/- Plain law: what is printed is signs; how large what is scanned is. No program in sight. -/
import Derived.Test.YtfblkahjefdmaaaDoorFmQ
namespace Go.Proofs.YtfblkahjefdmaaaDoor.FM

theorem guard_sign {m : List Int} : ∀ {s : List Int}, s.all RX.isSign = true → (guard m s).all RX.isSign = true
  | [], _ => rfl
  | c :: s, h => by
    simp only [List.all_cons, Bool.and_eq_true] at h
    rw [guard_cons, List.all_append, guard_sign h.2]
    split
    · simp [h.1]; decide
    · simp [h.1]
theorem dec_sign {g : Int} (h0 : 0 ≤ g) (h1 : g ≤ 99) : (dec g).all RX.isSign = true := by
  unfold dec
  split
  · simp [RX.isSign]; omega
  · simp [RX.isSign]; omega
theorem names_sign : ∀ k, (names.getD k []).all RX.isSign = true := by
  intro k
  rcases Nat.lt_or_ge k 5 with h | h
  · have : ∀ k, k < 5 → (names.getD k []).all RX.isSign = true := by decide
    exact this k h
  · rw [List.getD_eq_getElem?_getD, List.getElem?_eq_none (by simpa [names] using h)]; rfl
theorem put_sign {f : Form} (h : may1 f = true) : (put f).all RX.isSign = true := by
  obtain ⟨h1, h2, h3, h4, _⟩ := may1_of h
  have g1 := guard_sign (m := outer) h1
  have g2 := guard_sign (m := marks) h1
  have g3 := guard_sign (m := marks) h2
  have g4 := dec_sign h3 h4
  have g5 := names_sign (f.cas.toNat - 1)
  have c : RX.isSign 36 = true ∧ RX.isSign 123 = true ∧ RX.isSign 125 = true ∧ RX.isSign 58 = true ∧ RX.isSign 47 = true ∧ RX.isSign 43 = true ∧ RX.isSign 45 = true ∧ RX.isSign 63 = true := by decide
  obtain ⟨c1, c2, c3, c4, c5, c6, c7, c8⟩ := c
  unfold put body
  split
  · exact g1
  · simp only [List.all_cons, List.all_append, c1, c2, c3, g4, List.all_nil, Bool.true_and, Bool.and_true]
    split
    · split
      · rfl
      · simp only [List.all_cons, c4, c5, g5, Bool.true_and]
    split
    · simp only [List.all_cons, c4, c6, g2, Bool.true_and]
    split
    · simp only [List.all_cons, c4, c7, g3, Bool.true_and]
    split
    · simp only [List.all_cons, List.all_append, c4, c8, g2, g3, Bool.true_and]
    · rfl
theorem print_sign : ∀ {l : List Form} {p : Bool}, mayR p l = true → (print l).all RX.isSign = true
  | [], _, _ => rfl
  | f :: r, p, h => by
    unfold mayR at h
    simp only [Bool.and_eq_true] at h
    have e : print (f :: r) = put f ++ print r := rfl
    rw [e, List.all_append, put_sign h.1.1, print_sign h.2]; rfl

theorem text_tl (e : Int) : ∀ (n : Nat) (l : List Int) (t : List Int) (k : Nat), l.length ≤ n → text e l = some (t, k) → t.length ≤ k
  | _, [], t, k, _, h => by cases h
  | _, [c], t, k, _, h => by
    rw [text] at h
    split at h
    · injection h with h; injection h with h1 h2; subst h1 h2; simp
    · cases h
  | 0, _ :: _ :: _, _, _, hn, _ => by simp at hn
  | n + 1, c :: d :: r, t, k, hn, h => by
    rw [text] at h
    split at h
    · rw [Option.map_eq_some_iff] at h
      obtain ⟨⟨t', k'⟩, h1, h2⟩ := h
      injection h2 with h2 h3
      subst h2 h3
      have := text_tl e n r t' k' (by simp at hn; omega) h1
      simp; omega
    split at h
    · injection h with h; injection h with h1 h2; subst h1 h2; simp
    · rw [Option.map_eq_some_iff] at h
      obtain ⟨⟨t', k'⟩, h1, h2⟩ := h
      injection h2 with h2 h3
      subst h2 h3
      have := text_tl e n (d :: r) t' k' (by simp at hn ⊢; omega) h1
      simp; omega
theorem inner_tl {g : Int} {l : List Int} {f : Form} {k : Nat} (h : inner g l = some (f, k)) : f.text.length + f.els.length ≤ k := by
  unfold inner at h
  split at h
  · rw [Option.map_eq_some_iff] at h
    obtain ⟨⟨c, k'⟩, h2, h3⟩ := h
    injection h3 with h3 h4
    subst h3 h4; simp
  split at h
  · rw [Option.map_eq_some_iff] at h
    obtain ⟨⟨c, k'⟩, h2, h3⟩ := h
    injection h3 with h3 h4
    subst h3 h4
    have := text_tl _ _ _ _ _ (Nat.le_refl _) h2
    simp; omega
  split at h
  · split at h
    · cases h
    · rename_i p hp
      obtain ⟨t, k1⟩ := p
      rw [Option.map_eq_some_iff] at h
      obtain ⟨⟨c, k'⟩, h2, h3⟩ := h
      injection h3 with h3 h4
      subst h3 h4
      have h5 := text_tl _ _ _ _ _ (Nat.le_refl _) hp
      have h6 := text_tl _ _ _ _ _ (Nat.le_refl _) h2
      simp; omega
  split at h
  · rw [Option.map_eq_some_iff] at h
    obtain ⟨⟨c, k'⟩, h2, h3⟩ := h
    injection h3 with h3 h4
    subst h3 h4
    have := text_tl _ _ _ _ _ (Nat.le_refl _) h2
    simp; omega
  · rw [Option.map_eq_some_iff] at h
    obtain ⟨⟨c, k'⟩, h2, h3⟩ := h
    injection h3 with h3 h4
    subst h3 h4
    have := text_tl _ _ _ _ _ (Nat.le_refl _) h2
    simp; omega
theorem part_tl {l : List Int} {f : Form} {k : Nat} (h : part l = some (f, k)) : f.text.length + f.els.length ≤ k := by
  unfold part at h
  split at h
  · injection h with h
    injection h with h1 h2
    subst h1 h2; simp
  · split at h
    · split at h
      · cases h
      · split at h
        · injection h with h
          injection h with h1 h2
          subst h1 h2; simp
        · split at h
          · rw [Option.map_eq_some_iff] at h
            obtain ⟨⟨f', k2⟩, h2, h3⟩ := h
            injection h3 with h3 h4
            subst h3 h4
            have := inner_tl h2
            simp only; omega
          · cases h
    · cases h
/-- A bound on what is printed of parts. -/
def total (l : List Form) : Nat := (l.map fun f => 2 * f.text.length + 2 * f.els.length + (if f.kind = 0 then 0 else 17)).foldr (· + ·) 0
theorem total_append (a b : List Form) : total (a ++ b) = total a + total b := by
  unfold total
  rw [List.map_append, List.foldr_append]
  induction a.map (fun f => 2 * f.text.length + 2 * f.els.length + (if f.kind = 0 then 0 else 17)) with
  | nil => simp
  | cons x r ih => simp only [List.foldr_cons, ih]; omega
theorem endT_total (fs : List Form) (tx : List Int) : total (endT fs tx) ≤ total fs + 2 * tx.length := by
  unfold endT
  split
  · omega
  · rw [total_append]; simp [total]
theorem scan_total : ∀ (n : Nat) (l : List Int) (fs : List Form) (tx : List Int) (i : Nat) (r : List Form) (j : Nat), scan n l fs tx i = some (r, j) → l.all RX.isSign = true → total r ≤ total fs + 2 * tx.length + 10 * l.length
  | 0, _, _, _, _, _, _, h, _ => by cases h
  | _ + 1, [], _, _, _, _, _, h, _ => by cases h
  | n + 1, c :: l, fs, tx, i, r, j, h, ha => by
    simp only [List.all_cons, Bool.and_eq_true] at ha
    obtain ⟨hc, ha⟩ := ha
    have plain : scan n l fs (tx ++ [c]) (i + 1) = some (r, j) → total r ≤ total fs + 2 * tx.length + 10 * (c :: l).length := by
      intro h
      have := scan_total n l fs _ _ r j h ha
      rw [List.length_append] at this
      simp at this ⊢; omega
    rw [scan] at h
    split at h
    · injection h with h
      injection h with h1 h2
      have := endT_total fs tx
      rw [h1] at this; omega
    split at h
    · split at h
      · rename_i f k hp
        have h5 := part_tl hp
        have hk := part_ok hp ha
        have h6 := scan_total n _ _ _ _ r j h (all_drop ha _)
        have h7 := endT_total fs tx
        rw [total_append, List.length_drop] at h6
        have h8 : total [f] ≤ 2 * f.text.length + 2 * f.els.length + 17 := by simp [total]; split <;> omega
        simp only [List.length_nil, List.length_cons] at h6 ⊢
        omega
      · exact plain h
    · split at h
      · rename_i d hd
        obtain ⟨_, _, r', rfl⟩ := escN_some hd
        simp only [List.all_cons, Bool.and_eq_true] at ha
        have := scan_total n _ fs _ _ r j h ha.2
        rw [List.length_append] at this
        simp at this ⊢; omega
      · exact plain h
theorem scan_count : ∀ (n : Nat) (l : List Int) (fs : List Form) (tx : List Int) (i : Nat) (r : List Form) (j : Nat), scan n l fs tx i = some (r, j) → r.length ≤ fs.length + 2 * l.length + 1
  | 0, _, _, _, _, _, _, h => by cases h
  | _ + 1, [], _, _, _, _, _, h => by cases h
  | n + 1, c :: l, fs, tx, i, r, j, h => by
    have he : ∀ tx, (endT fs tx).length ≤ fs.length + 1 := by intro tx; unfold endT; split <;> simp
    rw [scan] at h
    split at h
    · injection h with h
      injection h with h1 h2
      have := he tx
      rw [h1] at this; simp; omega
    split at h
    · split at h
      · have h6 := scan_count n _ _ _ _ r j h
        have := he tx
        rw [List.length_append, List.length_drop] at h6
        simp at h6 ⊢; omega
      · have h6 := scan_count n _ _ _ _ r j h
        simp; omega
    · split at h
      · have h6 := scan_count n _ _ _ _ r j h
        rw [List.length_tail] at h6
        simp; omega
      · have h6 := scan_count n _ _ _ _ r j h
        simp; omega
theorem guard_twice (m : List Int) : ∀ s : List Int, (guard m s).length ≤ 2 * s.length
  | [] => by simp [guard]
  | c :: s => by
    have := guard_twice m s
    rw [guard_len]
    simp only [List.length_cons]
    split <;> omega
theorem names_ten : ∀ k, (names.getD k []).length ≤ 10 := by
  intro k
  rcases Nat.lt_or_ge k 5 with h | h
  · have : ∀ k, k < 5 → (names.getD k []).length ≤ 10 := by decide
    exact this k h
  · rw [List.getD_eq_getElem?_getD, List.getElem?_eq_none (by simpa [names] using h)]; simp
theorem put_total (f : Form) : (put f).length ≤ 2 * f.text.length + 2 * f.els.length + (if f.kind = 0 then 0 else 17) := by
  have h1 := guard_twice outer f.text
  have h2 := guard_twice marks f.text
  have h3 := guard_twice marks f.els
  have h4 := dec_len f.group
  have h5 := names_ten (f.cas.toNat - 1)
  unfold put body
  split
  · omega
  · simp only [List.length_cons, List.length_append, List.length_nil]
    split
    · split
      · simp; omega
      · simp only [List.length_cons]; omega
    split
    · simp only [List.length_cons]; omega
    split
    · simp only [List.length_cons]; omega
    split
    · simp only [List.length_cons, List.length_append]; omega
    · simp; omega
theorem print_total : ∀ l : List Form, (print l).length ≤ total l
  | [] => Nat.le_refl _
  | f :: r => by
    have ih := print_total r
    have h := put_total f
    have e : print (f :: r) = put f ++ print r := rfl
    have e2 : total (f :: r) = (2 * f.text.length + 2 * f.els.length + (if f.kind = 0 then 0 else 17)) + total r := rfl
    rw [e, List.length_append, e2]; omega
end Go.Proofs.YtfblkahjefdmaaaDoor.FM
