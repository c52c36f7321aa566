/- Plain law: the nodes of a regular text's tree are small. No program in sight. -/
import Derived.Test.YtfblkahjefdmaaaPgT
namespace Go.Proofs.Ytfblkahjefdmaaa.RX

/-- A node with a small set and small numbers. -/
def Sm (x : ReN) : Prop := x.set.length ≤ 1000 ∧ 0 ≤ x.lo ∧ x.lo ≤ 9 ∧ x.hi ≤ 9
def Sms (l : List ReN) : Prop := ∀ x ∈ l, Sm x
theorem sms_nil : Sms [] := by intro x hx; simp at hx
theorem sms_one {x : ReN} (h : Sm x) : Sms [x] := by intro y hy; simp at hy; subst hy; exact h
theorem under_sm {x : ReN} {ls : List (List ReN)} (hx : Sm x) (h : ∀ l ∈ ls, Sms l) : Sms (under x ls) := by
  intro y hy
  unfold under at hy
  rcases List.mem_cons.1 hy with rfl | hy
  · exact hx
  · obtain ⟨z, hz, rfl⟩ := List.mem_map.1 hy
    obtain ⟨l, hl, hz⟩ := List.mem_flatten.1 hz
    exact h l hl z hz
theorem sms_in {x : ReN} {ls : List (List ReN)} (h : Sms (under x ls)) : Sm x ∧ ∀ l ∈ ls, Sms l := by
  refine ⟨h x (by unfold under; simp), fun l hl z hz => ?_⟩
  exact h z.down (by unfold under; exact List.mem_cons_of_mem _ (List.mem_map.2 ⟨z, List.mem_flatten.2 ⟨l, hl, hz⟩, rfl⟩))

section
variable {s : List Int}
theorem must_sm (st : St) : 0 ≤ (must s st).1 ∧ (must s st).1 ≤ 9 := by
  unfold must
  split
  · exact ⟨by show (0 : Int) ≤ 0; omega, by show (0 : Int) ≤ 9; omega⟩
  · rename_i h
    show 0 ≤ digit (nxt s st 0) ∧ digit (nxt s st 0) ≤ 9
    refine ⟨by omega, ?_⟩
    unfold digit at h ⊢
    split
    · omega
    · omega
theorem high_sm (st : St) {lo : Int} (h : lo ≤ 9) : (high s lo st).1 ≤ 9 := by
  unfold high
  split
  · split
    · exact (must_sm _).2
    · show (-1 : Int) ≤ 9; omega
  · exact h
theorem repTop_sm {st st1 : St} {lo hi : Int} (h : repTop s st = some (lo, hi, st1)) : 0 ≤ lo ∧ lo ≤ 9 ∧ hi ≤ 9 := by
  unfold repTop at h
  simp only at h
  split at h
  · injection h with h; injection h with h1 h; injection h with h2 h; omega
  · split at h
    · injection h with h; injection h with h1 h; injection h with h2 h; omega
    · split at h
      · injection h with h; injection h with h1 h; injection h with h2 h; omega
      · split at h
        · injection h with h; injection h with h1 h; injection h with h2 h
          subst h1 h2
          unfold bounds
          simp only
          have h3 := must_sm (s := s) (st.bump 1)
          exact ⟨h3.1, h3.2, high_sm _ h3.2⟩
        · cases h
theorem repeatP_sm {st : St} {atom : List ReN} (ha : Sms atom) : Sms (repeatP s atom st).1 := by
  unfold repeatP
  rcases hr : repTop s st with _ | ⟨lo, hi, st1⟩
  · exact ha
  · have h := repTop_sm hr
    exact under_sm ⟨by simp [node], h.1, h.2.1, h.2.2⟩ (by intro l hl; simp at hl; subst hl; exact ha)
theorem set_sm (ng : Bool) {set : List Int} (h : set.length ≤ 1000) : Sms [node 2 0 0 false ng set] := sms_one ⟨h, by simp [node], by simp [node], by simp [node]⟩
theorem escaped_sm (st : St) : Sms (escaped s st).1 := by
  unfold escaped
  simp only
  split
  · rename_i l hl
    have := sort_len hl
    exact set_sm _ (by omega)
  · split
    · rename_i l hl2
      have := sort_len hl2
      exact set_sm _ (by omega)
    · split
      · exact set_sm _ (by simp)
      · exact sms_nil
theorem classP_sm (hs : s.length ≤ 60) (st : St) : Sms (classP s st).1 := by
  unfold classP
  simp only
  refine set_sm _ ?_
  generalize (if decide (nxt s st 0 = 94) = true then st.bump 1 else st) = st1
  have h := (classLoop_len (s := s) (s.length + 2 - st1.at_) st1 []).1
  have h2 : ([] : List Int).length = 0 := rfl
  omega
variable {alt : St → List ReN × St}
theorem groupIn_sm {n : Int} {st : St} (ha : ∀ st, Sms (alt st).1) (h0 : 0 ≤ n) (h9 : n ≤ 9) : Sms (groupIn s alt n st).1 := by
  unfold groupIn
  exact under_sm ⟨by simp [node], h0, h9, by simp [node]⟩ (by intro l hl; simp at hl; subst hl; exact ha _)
theorem groupP_sm (ha : ∀ st, Sms (alt st).1) (st : St) : Sms (groupP s alt st).1 := by
  unfold groupP
  split
  · exact sms_nil
  · split
    · exact groupIn_sm ha (by omega) (by omega)
    · split
      · exact sms_nil
      · split
        · exact sms_nil
        · exact groupIn_sm ha (by omega) (by omega)
theorem atomP_sm (hs : s.length ≤ 60) (ha : ∀ st, Sms (alt st).1) (st : St) : Sms (atomP s alt st).1 := by
  unfold atomP
  simp only
  split
  · exact sms_nil
  · split
    · exact groupP_sm ha st
    · split
      · exact classP_sm hs _
      · split
        · exact escaped_sm st
        · split
          · exact set_sm _ (by simp)
          · exact set_sm _ (by simp)
theorem itemP_sm (hs : s.length ≤ 60) (ha : ∀ st, Sms (alt st).1) (st : St) : Sms (itemP s alt st).1 := by
  unfold itemP
  simp only
  split
  · exact sms_one ⟨by simp [node], by simp [node], by simp [node], by simp [node]⟩
  · split
    · exact sms_one ⟨by simp [node], by simp [node], by simp [node], by simp [node]⟩
    · split
      · exact repeatP_sm (atomP_sm hs ha st)
      · exact sms_nil
theorem rowLoop_sm (hs : s.length ≤ 60) (ha : ∀ st, Sms (alt st).1) : ∀ (n : Nat) (st : St) (items : List (List ReN)), (∀ l ∈ items, Sms l) → Sms (rowLoop s alt n st items).1
  | 0, _, _, _ => sms_nil
  | n + 1, st, items, hi => by
    unfold rowLoop
    split
    · split
      · exact under_sm ⟨by simp [node], by simp [node], by simp [node], by simp [node]⟩ hi
      · refine rowLoop_sm hs ha n _ _ (fun l hl => ?_)
        rcases List.mem_append.1 hl with hl | hl
        · exact hi l hl
        · simp at hl; subst hl; exact itemP_sm hs ha st
    · exact sms_nil
theorem rowP_sm (hs : s.length ≤ 60) (ha : ∀ st, Sms (alt st).1) (st : St) : Sms (rowP s alt st).1 := rowLoop_sm hs ha _ _ _ (by intro l hl; simp at hl)
theorem altLoop_sm (hs : s.length ≤ 60) (ha : ∀ st, Sms (alt st).1) : ∀ (n : Nat) (st : St) (rows : List (List ReN)), (∀ l ∈ rows, Sms l) → ∀ l ∈ (altLoop s alt n st rows).1, Sms l
  | 0, _, _, hr => hr
  | n + 1, st, rows, hr => by
    unfold altLoop
    split
    · refine altLoop_sm hs ha n _ _ (fun l hl => ?_)
      rcases List.mem_append.1 hl with hl | hl
      · exact hr l hl
      · simp at hl; subst hl; exact rowP_sm hs ha _
    · exact hr
theorem altP_sm (hs : s.length ≤ 60) (ha : ∀ st, Sms (alt st).1) (st : St) : Sms (altP s alt st).1 := by
  unfold altP
  simp only
  have h := altLoop_sm hs ha (s.length + 2 - (rowP s alt st).2.at_) (rowP s alt st).2 [(rowP s alt st).1] (by intro l hl; simp at hl; subst hl; exact rowP_sm hs ha st)
  generalize (altLoop s alt (s.length + 2 - (rowP s alt st).2.at_) (rowP s alt st).2 [(rowP s alt st).1]).1 = rows at h
  split
  · cases rows with
    | nil => exact sms_nil
    | cons x r => exact h x (by simp)
  · exact under_sm ⟨by simp [node], by simp [node], by simp [node], by simp [node]⟩ h
theorem altN_sm (hs : s.length ≤ 60) : ∀ (n : Nat) (st : St), Sms (altN s n st).1
  | 0, st => altP_sm hs (fun _ => sms_nil) st
  | n + 1, st => altP_sm hs (altN_sm hs n) st
end
theorem parse_sms {s : List Int} {l : List ReN} {c p : Int} (h : parse s = (l, c, p)) : Sms l := by
  unfold parse at h
  split at h
  · injection h with h _; rw [← h]; exact sms_nil
  · rename_i hl
    split at h
    · injection h with h _; rw [← h]; exact sms_nil
    · simp only at h
      have hN := altN_sm (s := s) (by omega) 12 ⟨0, 0, 0, 0, 0⟩
      generalize altN s 12 ⟨0, 0, 0, 0, 0⟩ = r at h hN
      generalize (if r.2.ok = true ∧ r.2.at_ < s.length then r.2.fail 5 r.2.at_ else r.2) = st2 at h
      by_cases hok : st2.ok = true
      · rw [if_pos hok] at h; injection h with h _; rw [← h]; exact hN
      · rw [if_neg hok] at h; injection h with h _; rw [← h]; exact sms_nil
theorem parse_at {s : List Int} {l : List ReN} {b : Int} (h : parse s = (l, 0, b)) : b = 0 := by
  unfold parse at h
  split at h
  · injection h with _ h; injection h with h _; exact absurd h (by decide)
  · split at h
    · injection h with _ h; injection h with h _; exact absurd h (by decide)
    · simp only at h
      generalize (if (altN s 12 ⟨0, 0, 0, 0, 0⟩).2.ok = true ∧ (altN s 12 ⟨0, 0, 0, 0, 0⟩).2.at_ < s.length then (altN s 12 ⟨0, 0, 0, 0, 0⟩).2.fail 5 (altN s 12 ⟨0, 0, 0, 0, 0⟩).2.at_ else (altN s 12 ⟨0, 0, 0, 0, 0⟩).2) = st2 at h
      by_cases hok : st2.ok = true
      · rw [if_pos hok] at h; injection h with _ h; injection h with _ h; exact h.symm
      · rw [if_neg hok] at h
        injection h with _ h
        injection h with h _
        exact absurd (by unfold St.ok; rw [h]; rfl) hok
theorem parse_few {s : List Int} {l : List ReN} {c p : Int} (h : parse s = (l, c, p)) : Tr 60 200 l := by
  unfold parse at h
  split at h
  · injection h with h _; rw [← h]; exact Tr.nil_
  · rename_i hl
    split at h
    · injection h with h _; rw [← h]; exact Tr.nil_
    · simp only at h
      have hN := altN_ok s 12 ⟨0, 0, 0, 0, 0⟩ rfl (Nat.zero_le _) (by decide)
      generalize altN s 12 ⟨0, 0, 0, 0, 0⟩ = r at h hN
      have h1 : r.2.at_ ≤ s.length + 14 := hN.1.hi
      have h2 : Tr 60 200 r.1 := hN.2.mono (by decide) (by show 2 * (r.2.at_ - 0) + 2 ≤ 200; omega)
      generalize (if r.2.ok = true ∧ r.2.at_ < s.length then r.2.fail 5 r.2.at_ else r.2) = st2 at h
      by_cases hok : st2.ok = true
      · rw [if_pos hok] at h; injection h with h _; rw [← h]; exact h2
      · rw [if_neg hok] at h; injection h with h _; rw [← h]; exact Tr.nil_
theorem parse_off {s : List Int} {l : List ReN} {c p : Int} (h : parse s = (l, c, p)) (hc : c ≠ 0) : l = [] := by
  unfold parse at h
  split at h
  · injection h with h _; exact h.symm
  · split at h
    · injection h with h _; exact h.symm
    · simp only at h
      generalize (if (altN s 12 ⟨0, 0, 0, 0, 0⟩).2.ok = true ∧ (altN s 12 ⟨0, 0, 0, 0, 0⟩).2.at_ < s.length then (altN s 12 ⟨0, 0, 0, 0, 0⟩).2.fail 5 (altN s 12 ⟨0, 0, 0, 0, 0⟩).2.at_ else (altN s 12 ⟨0, 0, 0, 0, 0⟩).2) = st2 at h
      by_cases hok : st2.ok = true
      · rw [if_pos hok] at h; injection h with _ h; injection h with h _; exact absurd h.symm hc
      · rw [if_neg hok] at h; injection h with h _; exact h.symm
end Go.Proofs.Ytfblkahjefdmaaa.RX
