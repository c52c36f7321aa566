/- Plain law: a pattern in a group without a number; two patterns with | between. No program in sight. -/
import Derived.Test.YtfblkahjefdmaaaGrT
namespace Go.Proofs.Ytfblkahjefdmaaa.RX

theorem parse_top {s : List Int} {n : Nat} {X : Sp} (hX : Reads (fun s => altP s (altL s n)) n AltStop X) (hn : n = 12) (hs : s = X.txt) (hl : s.length ≤ 60) (hg : ∀ x ∈ s, (classOf x == 0) = false) :
    (X.ng ≤ 9 → parse s = (X.nodes 0, 0, 0)) ∧ (9 < X.ng → (parse s).2.1 ≠ 0) := by
  subst hn
  have h := hX s [] ⟨0, 0, 0, 0, 0⟩ rfl (by decide) (by decide) (Nat.zero_le _) (by rw [hs]; simp) (.inl rfl)
  have hf : s.findIdx? (fun c => classOf c == 0) = none := List.findIdx?_eq_none_iff.2 (by intro x hx; simpa using hg x hx)
  have e : altN s 12 ⟨0, 0, 0, 0, 0⟩ = altP s (altL s 12) ⟨0, 0, 0, 0, 0⟩ := by rw [altN_eq]
  have hlt : ¬ 60 < s.length := by omega
  unfold parse
  rw [if_neg hlt, hf]
  simp only
  rw [e]
  refine ⟨fun h9 => ?_, fun h9 => ?_⟩
  · have h4 : altP s (altL s 12) ⟨0, 0, 0, 0, 0⟩ = _ := h.1 (by show 0 + X.ng ≤ 9; omega)
    rw [h4]
    have h5 : ¬ (((⟨0, 0, 0, 0, 0⟩ : St).go X.txt.length X.ng).ok = true ∧ ((⟨0, 0, 0, 0, 0⟩ : St).go X.txt.length X.ng).at_ < s.length) := by
      rintro ⟨_, h6⟩
      have h6 : 0 + X.txt.length < s.length := h6
      rw [hs] at h6; omega
    simp only [if_neg h5]
    rfl
  · have h4 : (altP s (altL s 12) ⟨0, 0, 0, 0, 0⟩).2.ok = false := h.2 (by show 9 < 0 + X.ng; omega)
    generalize altP s (altL s 12) ⟨0, 0, 0, 0, 0⟩ = r at h4
    have hno : ¬ (r.2.ok = true ∧ r.2.at_ < s.length) := by rw [h4]; simp
    rw [if_neg hno, if_neg (show ¬ r.2.ok = true by rw [h4]; decide)]
    intro h5
    have h5 : r.2.code = 0 := h5
    unfold St.ok at h4
    rw [h5] at h4; cases h4
theorem parse_ok {s : List Int} {l : List ReN} {b : Int} (h : parse s = (l, 0, b)) : s.length ≤ 60 ∧ ∀ x ∈ s, (classOf x == 0) = false := by
  unfold parse at h
  split at h
  · injection h with _ h; injection h with h _; omega
  · rename_i hl
    split at h
    · injection h with _ h; injection h with h _; omega
    · rename_i hf
      refine ⟨by omega, fun x hx => ?_⟩
      have := List.findIdx?_eq_none_iff.1 hf x hx
      simpa using this
theorem groups_of {s : List Int} {l : List ReN} {n : Nat} {X : Sp} (hX : Reads (fun s => altP s (altL s n)) n AltStop X) (hn : n = 12) (hs : s = X.txt) (h : parse s = (l, 0, 0)) : l = X.nodes 0 ∧ X.ng ≤ 9 ∧ groups l = X.ng := by
  have hk := parse_ok h
  have h1 := parse_top hX hn hs hk.1 hk.2
  by_cases h9 : X.ng ≤ 9
  · have h2 := h1.1 h9
    rw [h] at h2
    injection h2 with h2 _
    refine ⟨h2, h9, ?_⟩
    subst hn
    have h3 := hX s [] ⟨0, 0, 0, 0, 0⟩ rfl (by decide) (by decide) (Nat.zero_le _) (by rw [hs]; simp) (.inl rfl)
    have h4 : altP s (altL s 12) ⟨0, 0, 0, 0, 0⟩ = _ := h3.1 (by show 0 + X.ng ≤ 9; omega)
    have hw := altN_wf s 12 ⟨0, 0, 0, 0, 0⟩ rfl rfl (Nat.zero_le _) (by decide) (by rw [altN_eq, h4]; rfl)
    rw [altN_eq, h4] at hw
    have h5 := (wf_base hw.1).grp
    have h6 : (groups (X.nodes 0) : Int) = ((0 + X.ng : Nat) : Int) - ((0 : Nat) : Int) := h5
    rw [h2]; omega
  · exact absurd (by rw [h]) (h1.2 (by omega))

/-- A pattern in (?: ): its tree, two deeper. -/
theorem within_group {p : List Int} {l : List ReN} {k : Nat} (hp : RowF k p) (hk : k ≤ 11) (h : parse p = (l, 0, 0)) (hl : p.length ≤ 56) :
    parse (40 :: 63 :: 58 :: (p ++ [41])) = (under (node 0 0 0 false false []) [under (node 5 0 0 false false []) [l]], 0, 0) := by
  obtain ⟨Xs, rfl, _, hX⟩ := hp
  have h1 := groups_of (alt1_read (hX 12 (by omega))) rfl rfl h
  have hok := parse_ok h
  have hG := item_bare (grp_free (alt1_read (hX 11 hk)))
  have hR := alt1_read (n := 12) (Xs := [grpSp false (rowSp Xs)]) (by intro X hXm; simp at hXm; subst hXm; exact hG)
  have h2 := parse_top (s := 40 :: 63 :: 58 :: (rowTxt Xs ++ [41])) hR rfl (by simp [rowSp, rowTxt, grpSp]) (by simp; omega) (by
    intro x hx
    simp at hx
    rcases hx with rfl | rfl | rfl | hx | rfl
    · rfl
    · rfl
    · rfl
    · exact hok.2 x hx
    · rfl)
  have h3 := h2.1 (by have := h1.2.1; simpa [rowSp, rowNg, grpSp] using this)
  rw [h3, h1.1]
  simp [rowSp, rowNodes, grpSp]
/-- Two patterns with | between. -/
theorem within_two {p q : List Int} {a b : List ReN} {k : Nat} (hp : RowF k p) (hq : RowF k q) (hk : k ≤ 12) (ha : parse p = (a, 0, 0)) (hb : parse q = (b, 0, 0)) (hl : p.length + q.length ≤ 59) (hg : groups a + groups b ≤ 9) :
    ∃ l, parse (p ++ (124 :: q)) = (l, 0, 0) ∧ l.length = a.length + b.length + 1 ∧ (∃ x r, l = x :: r ∧ x.kind = 1) ∧ groups l = groups a + groups b := by
  obtain ⟨Xs, rfl, hu, hX⟩ := hp
  obtain ⟨Ys, rfl, hu', hY⟩ := hq
  have h1 := groups_of (alt1_read (hX 12 hk)) rfl rfl ha
  have h2 := groups_of (alt1_read (hY 12 hk)) rfl rfl hb
  have hok := parse_ok ha
  have hok' := parse_ok hb
  have hR := alt2_read (hX 12 hk) (hY 12 hk)
  have hng : rowNg Xs + rowNg Ys ≤ 9 := by have e1 : (rowSp Xs).ng = rowNg Xs := rfl; have e2 : (rowSp Ys).ng = rowNg Ys := rfl; omega
  have h3 := (parse_top (s := rowTxt Xs ++ (124 :: rowTxt Ys)) hR rfl rfl (by simp; omega) (by
    intro x hx
    simp at hx
    rcases hx with hx | rfl | hx
    · exact hok.2 x hx
    · rfl
    · exact hok'.2 x hx)).1 hng
  refine ⟨_, h3, ?_, ⟨_, _, rfl, rfl⟩, ?_⟩
  · show (under _ _).length = _
    rw [under_len, h1.1, h2.1]
    simp only [List.flatten_cons, List.flatten_nil, List.append_nil, List.length_append]
    rw [uni_row hu' (0 + rowNg Xs) 0]; omega
  · have h4 := groups_of hR rfl rfl h3
    rw [h4.2.2, h1.2.2, h2.2.2]; rfl
end Go.Proofs.Ytfblkahjefdmaaa.RX
