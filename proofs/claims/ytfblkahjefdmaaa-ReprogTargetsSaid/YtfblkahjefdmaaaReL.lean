/- Plain law: how far the reader of package resyn goes, how large its trees are. No program in sight. -/
import Derived.Test.YtfblkahjefdmaaaReP
namespace Go.Proofs.Ytfblkahjefdmaaa.RX

theorem St.fail_ok {c b : Int} (st : St) (h : c ≠ 0) : (st.fail c b).ok = false := by
  unfold St.fail St.ok; split
  · simpa using h
  · rename_i h1; simpa using h1
theorem St.fail_at (c b : Int) (st : St) : (st.fail c b).at_ = st.at_ := by unfold St.fail; split <;> rfl
theorem St.fail_op (c b : Int) (st : St) : (st.fail c b).op = st.op := by unfold St.fail; split <;> rfl
theorem St.fail_caps (c b : Int) (st : St) : (st.fail c b).caps = st.caps := by unfold St.fail; split <;> rfl
theorem nxt_in {s : List Int} {st : St} {k : Nat} (h : nxt s st k ≠ -1) : st.at_ + k < s.length := by
  rcases Nat.lt_or_ge (st.at_ + k) s.length with h1 | h1
  · exact h1
  · exact absurd (by unfold nxt; rw [List.getElem?_eq_none h1]; rfl) h

/-- A step of the reader: how far it goes. -/
structure Fwd (s : List Int) (c : Nat) (st st' : St) : Prop where
  mono : st.at_ ≤ st'.at_
  hi : st'.at_ ≤ s.length + c
  okl : st'.ok = true → st'.at_ ≤ s.length
  op : st'.op = st.op
  caps0 : st.caps ≤ st'.caps
  caps9 : st'.caps ≤ 9

theorem Fwd.refl {s : List Int} {st : St} (c : Nat) (ha : st.at_ ≤ s.length) (h9 : st.caps ≤ 9) : Fwd s c st st :=
  ⟨Nat.le_refl _, by omega, fun _ => ha, rfl, Nat.le_refl _, h9⟩
theorem Fwd.mono_c {s : List Int} {c d : Nat} {st st' : St} (h : Fwd s c st st') (hcd : c ≤ d) : Fwd s d st st' :=
  ⟨h.mono, by have := h.hi; omega, h.okl, h.op, h.caps0, h.caps9⟩
theorem Fwd.trans {s : List Int} {c : Nat} {a b d : St} (h : Fwd s c a b) (k : Fwd s c b d) : Fwd s c a d :=
  ⟨Nat.le_trans h.mono k.mono, k.hi, k.okl, k.op.trans h.op, Nat.le_trans h.caps0 k.caps0, k.caps9⟩
theorem Fwd.fail {s : List Int} {c : Nat} {st st' : St} (h : Fwd s c st st') {e b : Int} (he : e ≠ 0) : Fwd s c st (st'.fail e b) where
  mono := by rw [St.fail_at]; exact h.mono
  hi := by rw [St.fail_at]; exact h.hi
  okl := by rw [St.fail_ok _ he]; exact (fun h => nomatch h)
  op := by rw [St.fail_op]; exact h.op
  caps0 := by rw [St.fail_caps]; exact h.caps0
  caps9 := by rw [St.fail_caps]; exact h.caps9
theorem Fwd.bump {s : List Int} {c : Nat} {st st' : St} (h : Fwd s c st st') (n : Nat) (hn : st'.at_ + n ≤ s.length) : Fwd s c st (st'.bump n) :=
  ⟨Nat.le_trans h.mono (Nat.le_add_right _ _), by show st'.at_ + n ≤ _; omega, fun _ => hn, h.op, h.caps0, h.caps9⟩
/-- One sign further, where something may be wrong already. -/
theorem Fwd.bump1 {s : List Int} {c : Nat} {st st' : St} (h : Fwd s c st st') (hn : st'.ok = true → st'.at_ < s.length) : Fwd s (c + 1) st (st'.bump 1) :=
  ⟨Nat.le_trans h.mono (Nat.le_add_right _ _), by have := h.hi; show st'.at_ + 1 ≤ _; omega, fun ho => hn ho, h.op, h.caps0, h.caps9⟩

theorem sort_ne {c : Int} {l : List Int} (h : sortR c = some l) : c ≠ -1 := by rintro rfl; simp [sortR] at h
theorem lower_ne {c : Int} {l : List Int} (h : sortR (lower c) = some l) : c ≠ -1 := by rintro rfl; simp [sortR, lower, within] at h
theorem sign_ne {c x : Int} (h : signR c = some x) : c ≠ -1 := by rintro rfl; simp [signR] at h
theorem sort_len {c : Int} {l : List Int} (h : sortR c = some l) : 1 ≤ l.length ∧ l.length ≤ 8 ∧ l.length % 2 = 0 := by
  unfold sortR at h
  split at h
  · injection h with h; subst h; simp
  · split at h
    · injection h with h; subst h; simp
    · split at h
      · injection h with h; subst h; simp
      · cases h

section
variable {s : List Int}
theorem escaped_fwd {st : St} (ha : st.at_ < s.length) (h9 : st.caps ≤ 9) : Fwd s 0 st (escaped s st).2 := by
  have h0 : Fwd s 0 st (st.bump 1) := (Fwd.refl 0 (Nat.le_of_lt ha) h9).bump 1 ha
  unfold escaped
  simp only
  split
  · rename_i l hl; exact h0.bump 1 (nxt_in (sort_ne hl))
  · split
    · rename_i l hl; exact h0.bump 1 (nxt_in (lower_ne hl))
    · split
      · rename_i x hx; exact h0.bump 1 (nxt_in (sign_ne hx))
      · exact h0.fail (by decide)
theorem escaped_len (st : St) : (escaped s st).1.length ≤ 1 ∧ ∀ x ∈ (escaped s st).1, x.deep = 0 := by
  unfold escaped
  simp only
  split
  · simp [node]
  · split
    · simp [node]
    · split <;> simp [node]
theorem escaped_more (st : St) : st.at_ + 1 ≤ (escaped s st).2.at_ := by
  unfold escaped
  simp only
  split
  · show _ ≤ st.at_ + 1 + 1; omega
  · split
    · show _ ≤ st.at_ + 1 + 1; omega
    · split
      · show _ ≤ st.at_ + 1 + 1; omega
      · rw [St.fail_at]; exact Nat.le_refl _

theorem member_fwd {st : St} (ha : st.at_ ≤ s.length) (h9 : st.caps ≤ 9) : Fwd s 0 st (member s st).2.2 := by
  have h0 : Fwd s 0 st st := Fwd.refl 0 ha h9
  unfold member
  simp only
  split
  · exact h0.fail (by decide)
  · rename_i h
    have hl := nxt_in (s := s) (st := st) (k := 0) (fun h1 => h (.inl h1))
    have h1 := h0.bump 1 hl
    split
    · split
      · exact h1.fail (by decide)
      · rename_i h2
        refine h1.bump 1 (nxt_in (k := 0) fun h3 => h2 ?_)
        rw [h3]; exact ⟨by simp [sortR], by simp [signR]⟩
    · exact h1
/-- A member that is read goes on. -/
theorem member_more {st : St} (h : (member s st).2.2.ok = true) : st.at_ + 1 ≤ (member s st).2.2.at_ := by
  unfold member at h ⊢
  simp only at h ⊢
  split at h
  · rw [St.fail_ok _ (by decide)] at h; cases h
  · rename_i h0
    rw [if_neg h0]
    split at h
    · rename_i h1
      rw [if_pos h1]
      split at h
      · rw [St.fail_ok _ (by decide)] at h; cases h
      · rename_i h2
        rw [if_neg h2]; show _ ≤ st.at_ + 1 + 1; omega
    · rename_i h1
      rw [if_neg h1]; exact Nat.le_refl _
theorem member_sort {st : St} {l : List Int} (h : (member s st).2.1 = some l) : 1 ≤ l.length ∧ l.length ≤ 8 ∧ l.length % 2 = 0 := by
  unfold member at h
  simp only at h
  split at h
  · cases h
  · split at h
    · split at h
      · cases h
      · exact sort_len h
    · cases h
theorem ranged_ne {st : St} (h : ranged s st = true) : st.at_ + 1 < s.length := by
  unfold ranged at h
  split at h
  · simp only [Bool.and_eq_true, decide_eq_true_eq] at h
    exact nxt_in h.1.1
  · cases h
theorem classRound_sort {st : St} {set l : List Int} (h : (member s st).2.1 = some l) : classRound s st set = (set ++ l, (member s st).2.2) := by
  unfold classRound; simp only [h]
def rangeEnd (s : List Int) (st : St) : Int × St :=
  if (member s st).2.2.ok && ranged s (member s st).2.2 then ((member s ((member s st).2.2.bump 1)).1, (member s ((member s st).2.2.bump 1)).2.2) else ((member s st).1, (member s st).2.2)
theorem classRound_one {st : St} {set : List Int} (h : (member s st).2.1 = none) : classRound s st set = (set ++ [(member s st).1, (rangeEnd s st).1], if (rangeEnd s st).2.ok = true ∧ (rangeEnd s st).1 < (member s st).1 then (rangeEnd s st).2.fail 5 st.at_ else (rangeEnd s st).2) := by
  unfold classRound rangeEnd; simp only [h]
theorem rangeEnd_fwd {st : St} (ha : st.at_ ≤ s.length) (h9 : st.caps ≤ 9) : Fwd s 0 st (rangeEnd s st).2 := by
  have h0 := member_fwd (s := s) ha h9
  unfold rangeEnd
  split
  · rename_i h
    simp only [Bool.and_eq_true] at h
    have hr := ranged_ne h.2
    have h1 := h0.bump 1 (by omega)
    exact h1.trans (member_fwd (st := (member s st).2.2.bump 1) (by show (member s st).2.2.at_ + 1 ≤ _; omega) h1.caps9)
  · exact h0
theorem rangeEnd_more {st : St} (ha : st.at_ ≤ s.length) (h9 : st.caps ≤ 9) (h : (rangeEnd s st).2.ok = true) : st.at_ + 1 ≤ (rangeEnd s st).2.at_ := by
  unfold rangeEnd at h ⊢
  split at h
  · rename_i h3
    rw [if_pos h3]
    simp only [Bool.and_eq_true] at h3
    have hr := ranged_ne h3.2
    have h1 := member_more h3.1
    have h4 := (member_fwd (s := s) ha h9).bump 1 (show (member s st).2.2.at_ + 1 ≤ s.length by omega)
    have h5 := (member_fwd (s := s) (st := (member s st).2.2.bump 1) (by show (member s st).2.2.at_ + 1 ≤ _; omega) h4.caps9).mono
    have : (member s st).2.2.at_ + 1 ≤ (member s ((member s st).2.2.bump 1)).2.2.at_ := h5
    show st.at_ + 1 ≤ (member s ((member s st).2.2.bump 1)).2.2.at_
    omega
  · rename_i h3
    rw [if_neg h3]; exact member_more h
theorem classRound_fwd {st : St} {set : List Int} (ha : st.at_ ≤ s.length) (h9 : st.caps ≤ 9) : Fwd s 0 st (classRound s st set).2 := by
  rcases hm : (member s st).2.1 with _ | l
  · rw [classRound_one hm]
    have h := rangeEnd_fwd (s := s) ha h9
    simp only
    split
    · exact h.fail (by decide)
    · exact h
  · rw [classRound_sort hm]; exact member_fwd ha h9
theorem classRound_more {st : St} {set : List Int} (ha : st.at_ ≤ s.length) (h9 : st.caps ≤ 9) (h : (classRound s st set).2.ok = true) : st.at_ + 1 ≤ (classRound s st set).2.at_ := by
  rcases hm : (member s st).2.1 with _ | l
  · rw [classRound_one hm] at h ⊢
    simp only at h ⊢
    split at h
    · rw [St.fail_ok _ (by decide)] at h; cases h
    · rename_i h2
      rw [if_neg h2]; exact rangeEnd_more ha h9 h
  · rw [classRound_sort hm] at h ⊢; exact member_more h
theorem classRound_len (st : St) (set : List Int) : (classRound s st set).1.length ≤ set.length + 8 ∧ set.length + 1 ≤ (classRound s st set).1.length ∧ (classRound s st set).1.length % 2 = set.length % 2 := by
  rcases hm : (member s st).2.1 with _ | l
  · rw [classRound_one hm]
    simp only [List.length_append, List.length_cons, List.length_nil]; omega
  · rw [classRound_sort hm]
    have := member_sort hm
    simp only [List.length_append]; omega

theorem classLoop_off {n : Nat} {st : St} {set : List Int} (h : (st.ok && (set.isEmpty || decide (nxt s st 0 ≠ 93))) = false) : classLoop s n st set = (set, st) := by
  cases n with
  | zero => rfl
  | succ n => unfold classLoop; rw [h]; rfl
theorem classLoop_on {n : Nat} {st : St} {set : List Int} (h : (st.ok && (set.isEmpty || decide (nxt s st 0 ≠ 93))) = true) : classLoop s (n + 1) st set = classLoop s n (classRound s st set).2 (classRound s st set).1 := by
  rw [classLoop, if_pos h]
theorem classLoop_fwd : ∀ (n : Nat) {st : St} {set : List Int}, st.at_ ≤ s.length → st.caps ≤ 9 → Fwd s 0 st (classLoop s n st set).2
  | 0, _, _, ha, h9 => Fwd.refl 0 ha h9
  | n + 1, st, set, ha, h9 => by
    rcases hc : (st.ok && (set.isEmpty || decide (nxt s st 0 ≠ 93))) with _ | _
    · rw [classLoop_off hc]; exact Fwd.refl 0 ha h9
    · rw [classLoop_on hc]
      have h := classRound_fwd (set := set) ha h9
      rcases hok : (classRound s st set).2.ok with _ | _
      · rw [classLoop_off (by rw [hok]; rfl)]; exact h
      · exact h.trans (classLoop_fwd n (h.okl hok) h.caps9)
/-- Where nothing was wrong the loop has come to a ]. -/
theorem classLoop_end : ∀ (n : Nat) {st : St} {set : List Int}, st.at_ ≤ s.length → st.caps ≤ 9 → s.length + 1 ≤ n + st.at_ → (classLoop s n st set).2.ok = true → nxt s (classLoop s n st set).2 0 = 93 ∧ (classLoop s n st set).1 ≠ []
  | 0, _, _, ha, _, hn, _ => by omega
  | n + 1, st, set, ha, h9, hn, hok => by
    rcases hc : (st.ok && (set.isEmpty || decide (nxt s st 0 ≠ 93))) with _ | _
    · rw [classLoop_off hc] at hok ⊢
      have hok : st.ok = true := hok
      rw [hok] at hc
      simp at hc
      refine ⟨hc.2, ?_⟩
      intro h
      have h : set = [] := h
      rw [h] at hc; simp at hc
    · rw [classLoop_on hc] at hok ⊢
      have h := classRound_fwd (set := set) ha h9
      rcases ho : (classRound s st set).2.ok with _ | _
      · rw [classLoop_off (by rw [ho]; rfl)] at hok
        have hok : (classRound s st set).2.ok = true := hok
        rw [ho] at hok; cases hok
      · have h1 := classRound_more (set := set) ha h9 ho
        exact classLoop_end n (h.okl ho) h.caps9 (by omega) hok
theorem classLoop_len : ∀ (n : Nat) (st : St) (set : List Int), (classLoop s n st set).1.length ≤ set.length + 8 * n ∧ (classLoop s n st set).1.length % 2 = set.length % 2
  | 0, _, set => ⟨Nat.le_refl _, rfl⟩
  | n + 1, st, set => by
    rcases hc : (st.ok && (set.isEmpty || decide (nxt s st 0 ≠ 93))) with _ | _
    · rw [classLoop_off hc]; exact ⟨Nat.le_add_right _ _, rfl⟩
    · rw [classLoop_on hc]
      have h1 := classRound_len (s := s) st set
      have h2 := classLoop_len n (classRound s st set).2 (classRound s st set).1
      omega
theorem classP_fwd {st : St} (ha : st.at_ ≤ s.length) (h9 : st.caps ≤ 9) : Fwd s 1 st (classP s st).2 := by
  unfold classP
  simp only
  have h0 : Fwd s 0 st (if decide (nxt s st 0 = 94) = true then st.bump 1 else st) := by
    split
    · rename_i h
      have h : nxt s st 0 = 94 := of_decide_eq_true h
      exact (Fwd.refl 0 ha h9).bump 1 (nxt_in (k := 0) (by omega))
    · exact Fwd.refl 0 ha h9
  generalize (if decide (nxt s st 0 = 94) = true then st.bump 1 else st) = st1 at h0 ⊢
  have h1 : st1.at_ ≤ s.length := h0.hi
  have h2 := h0.trans (classLoop_fwd (s.length + 2 - st1.at_) (set := []) h1 h0.caps9)
  exact h2.bump1 fun hok => by
    have := nxt_in (k := 0) (s := s) (st := (classLoop s (s.length + 2 - st1.at_) st1 []).2) (by rw [(classLoop_end _ h1 h0.caps9 (by omega) hok).1]; decide)
    exact this
theorem classP_len (st : St) : (classP s st).1.length = 1 ∧ ∀ x ∈ (classP s st).1, x.deep = 0 := by
  unfold classP; simp [node]
theorem classP_more {st : St} (ha : st.at_ ≤ s.length) (h9 : st.caps ≤ 9) : st.at_ ≤ (classP s st).2.at_ := (classP_fwd ha h9).mono

theorem digit_ne {c : Int} (h : ¬ digit c < 0) : c ≠ -1 := by rintro rfl; simp [digit] at h
theorem must_fwd {st : St} (ha : st.at_ ≤ s.length) (h9 : st.caps ≤ 9) : Fwd s 0 st (must s st).2 := by
  unfold must
  split
  · exact (Fwd.refl 0 ha h9).fail (by decide)
  · rename_i h; exact (Fwd.refl 0 ha h9).bump 1 (nxt_in (k := 0) (digit_ne h))
theorem high_fwd {st : St} {lo : Int} (ha : st.at_ ≤ s.length) (h9 : st.caps ≤ 9) : Fwd s 0 st (high s lo st).2 := by
  unfold high
  split
  · rename_i h
    have h1 := (Fwd.refl 0 ha h9).bump 1 (nxt_in (s := s) (k := 0) (st := st) (by omega))
    split
    · exact h1.trans (must_fwd h1.hi h1.caps9)
    · exact h1
  · exact Fwd.refl 0 ha h9
theorem ite_fwd {c : Nat} {p : Prop} [Decidable p] {st a b : St} (h1 : Fwd s c st a) (h2 : Fwd s c st b) : Fwd s c st (if p then a else b) := by split <;> assumption
theorem bounds_fwd {st : St} (ha : st.at_ < s.length) (h9 : st.caps ≤ 9) : Fwd s 1 st (bounds s st).2.2 ∧ st.at_ + 1 ≤ (bounds s st).2.2.at_ := by
  have h0 : Fwd s 0 st (st.bump 1) := (Fwd.refl 0 (Nat.le_of_lt ha) h9).bump 1 ha
  have h1 := h0.trans (must_fwd h0.hi h0.caps9)
  have h2 := h1.trans (high_fwd (lo := (must s (st.bump 1)).1) h1.hi h1.caps9)
  have hm : st.at_ + 1 ≤ (high s (must s (st.bump 1)).1 (must s (st.bump 1)).2).2.at_ :=
    Nat.le_trans (must_fwd (st := st.bump 1) h0.hi h0.caps9).mono (high_fwd (lo := (must s (st.bump 1)).1) (st := (must s (st.bump 1)).2) h1.hi h1.caps9).mono
  unfold bounds
  simp only
  generalize high s (must s (st.bump 1)).1 (must s (st.bump 1)).2 = b at h2 hm
  generalize (must s (st.bump 1)).1 = lo
  have h3 : Fwd s 1 st ((if b.2.ok = true ∧ nxt s b.2 0 ≠ 125 then b.2.fail 5 b.2.at_ else b.2).bump 1) ∧ st.at_ + 1 ≤ ((if b.2.ok = true ∧ nxt s b.2 0 ≠ 125 then b.2.fail 5 b.2.at_ else b.2).bump 1).at_ := by
    split
    · exact ⟨(h2.fail (by decide)).bump1 (by rw [St.fail_ok _ (by decide)]; exact (fun h => nomatch h)), by show _ ≤ (b.2.fail 5 b.2.at_).at_ + 1; rw [St.fail_at]; omega⟩
    · rename_i h
      exact ⟨h2.bump1 fun hok => nxt_in (s := s) (k := 0) (by intro h4; exact h ⟨hok, by rw [h4]; decide⟩), by show _ ≤ b.2.at_ + 1; omega⟩
  generalize (if b.2.ok = true ∧ nxt s b.2 0 ≠ 125 then b.2.fail 5 b.2.at_ else b.2).bump 1 = st1 at h3
  split
  · exact ⟨h3.1.fail (by decide), by rw [St.fail_at]; exact h3.2⟩
  · exact h3
theorem repTop_fwd {st st1 : St} {lo hi : Int} (h : repTop s st = some (lo, hi, st1)) (h9 : st.caps ≤ 9) : Fwd s 1 st st1 ∧ st.at_ + 1 ≤ st1.at_ := by
  unfold repTop at h
  simp only at h
  split at h
  · injection h with h; injection h with _ h; injection h with _ h; subst h
    rename_i h0
    have ha := nxt_in (s := s) (k := 0) (st := st) (by omega)
    exact ⟨((Fwd.refl 0 (Nat.le_of_lt ha) h9).bump 1 ha).mono_c (by omega), Nat.le_refl _⟩
  · split at h
    · injection h with h; injection h with _ h; injection h with _ h; subst h
      rename_i h0
      have ha := nxt_in (s := s) (k := 0) (st := st) (by omega)
      exact ⟨((Fwd.refl 0 (Nat.le_of_lt ha) h9).bump 1 ha).mono_c (by omega), Nat.le_refl _⟩
    · split at h
      · injection h with h; injection h with _ h; injection h with _ h; subst h
        rename_i h0
        have ha := nxt_in (s := s) (k := 0) (st := st) (by omega)
        exact ⟨((Fwd.refl 0 (Nat.le_of_lt ha) h9).bump 1 ha).mono_c (by omega), Nat.le_refl _⟩
      · split at h
        · injection h with h; injection h with _ h; injection h with _ h; subst h
          rename_i h0
          exact bounds_fwd (nxt_in (s := s) (k := 0) (st := st) (by omega)) h9
        · cases h

/-- A tree of at most k nodes, none deeper than d. -/
def Tr (d : Int) (k : Nat) (l : List ReN) : Prop := l.length ≤ k ∧ ∀ x ∈ l, 0 ≤ x.deep ∧ x.deep ≤ d
theorem Tr.nil_ {d : Int} {k : Nat} : Tr d k [] := ⟨Nat.zero_le _, by simp⟩
theorem Tr.mono {d d' : Int} {k k' : Nat} {l : List ReN} (h : Tr d k l) (hd : d ≤ d') (hk : k ≤ k') : Tr d' k' l := ⟨Nat.le_trans h.1 hk, fun x hx => ⟨(h.2 x hx).1, Int.le_trans (h.2 x hx).2 hd⟩⟩
theorem Tr.one {d : Int} {k : Nat} {x : ReN} (h : x.deep = 0) (hd : 0 ≤ d) (hk : 1 ≤ k) : Tr d k [x] := ⟨hk, by intro y hy; simp at hy; subst hy; omega⟩
theorem under_len (top : ReN) (parts : List (List ReN)) : (under top parts).length = 1 + parts.flatten.length := by
  simp only [under, List.length_cons, List.length_map]; omega
theorem under_tr {d : Int} {top : ReN} {parts : List (List ReN)} (ht : top.deep = 0) (hd : 0 ≤ d) (h : ∀ l ∈ parts, ∀ x ∈ l, 0 ≤ x.deep ∧ x.deep ≤ d) : Tr (d + 1) (1 + parts.flatten.length) (under top parts) := by
  refine ⟨Nat.le_of_eq (under_len _ _), fun x hx => ?_⟩
  unfold under at hx
  rcases List.mem_cons.1 hx with rfl | hx
  · omega
  · obtain ⟨y, hy, rfl⟩ := List.mem_map.1 hx
    obtain ⟨l, hl, hy⟩ := List.mem_flatten.1 hy
    have := h l hl y hy
    simp only [ReN.down]; omega
theorem under1_tr {d : Int} {k : Nat} {top : ReN} {l : List ReN} (ht : top.deep = 0) (hd : 0 ≤ d) (h : Tr d k l) : Tr (d + 1) (k + 1) (under top [l]) :=
  (under_tr (parts := [l]) ht hd (fun l' hl => by simp at hl; subst hl; exact h.2)).mono (Int.le_refl _) (by have := h.1; simp; omega)

theorem repeatP_fwd {st : St} {atom : List ReN} {d : Int} {k : Nat} (hst : st.at_ ≤ s.length) (h9 : st.caps ≤ 9) (hd : 0 ≤ d) (ha : Tr d k atom) :
    Fwd s 1 st (repeatP s atom st).2 ∧ Tr (d + 1) (k + ((repeatP s atom st).2.at_ - st.at_)) (repeatP s atom st).1 := by
  unfold repeatP
  rcases hr : repTop s st with _ | ⟨lo, hi, st1⟩
  · exact ⟨Fwd.refl 1 hst h9, ha.mono (by omega) (Nat.le_add_right _ _)⟩
  · simp only
    have h := repTop_fwd hr h9
    have h1 := under1_tr (top := node 6 lo hi (st1.ok && decide (nxt s st1 0 = 63)) false []) rfl hd ha
    split
    · rename_i hz
      simp only [Bool.and_eq_true, decide_eq_true_eq] at hz
      have h2 := nxt_in (s := s) (k := 0) (st := st1) (by omega)
      refine ⟨h.1.bump 1 h2, h1.mono (Int.le_refl _) ?_⟩
      show _ ≤ k + (st1.at_ + 1 - st.at_); omega
    · exact ⟨h.1, h1.mono (Int.le_refl _) (by omega)⟩

/-- What the alternatives of a level do. -/
def AltOk (s : List Int) (c : Nat) (d : Int) (alt : St → List ReN × St) : Prop :=
  ∀ st : St, st.ok = true → st.at_ ≤ s.length → st.caps ≤ 9 → Fwd s c st (alt st).2 ∧ Tr d (2 * ((alt st).2.at_ - st.at_) + 2) (alt st).1
theorem AltOk.weak {c c' : Nat} {d d' : Int} {alt : St → List ReN × St} (h : AltOk s c d alt) (hc : c ≤ c') (hd : d ≤ d') : AltOk s c' d' alt := fun st h1 h2 h3 => ⟨(h st h1 h2 h3).1.mono_c hc, (h st h1 h2 h3).2.mono hd (Nat.le_refl _)⟩
theorem AltOk.stub {c : Nat} {d : Int} : AltOk s c d (fun st => ([], st)) := fun _ _ ha h9 => ⟨Fwd.refl c ha h9, Tr.nil_⟩

variable {c : Nat} {d : Int} {alt : St → List ReN × St}
theorem groupIn_fwd {n : Int} {st st0 : St} (halt : AltOk s c d alt) (hd : 0 ≤ d) (hok : st.ok = true) (h0 : Fwd s 0 st0 st) :
    Fwd s (c + 1) st0 (groupIn s alt n st).2 ∧ Tr (d + 1) (2 * ((groupIn s alt n st).2.at_ - st.at_) + 1) (groupIn s alt n st).1 ∧ st.at_ + 1 ≤ (groupIn s alt n st).2.at_ := by
  have h := halt { st with op := st.op + 1 } hok h0.hi h0.caps9
  unfold groupIn
  simp only
  generalize alt { st with op := st.op + 1 } = r at h ⊢
  obtain ⟨h1, h2⟩ := h
  have hm : st.at_ ≤ r.2.at_ := h1.mono
  have hop : r.2.op - 1 = st.op := by rw [h1.op]; exact Nat.add_sub_cancel _ _
  have h3 : Fwd s c st0 { r.2 with op := r.2.op - 1 } := ⟨Nat.le_trans h0.mono h1.mono, h1.hi, h1.okl, by rw [← h0.op]; exact hop, Nat.le_trans h0.caps0 h1.caps0, h1.caps9⟩
  generalize hst1 : ({ r.2 with op := r.2.op - 1 } : St) = st1 at h3 ⊢
  have hat : st1.at_ = r.2.at_ := by rw [← hst1]
  have h4 : Fwd s (c + 1) st0 ((if st1.ok = true ∧ nxt s st1 0 ≠ 41 then st1.fail 5 r.2.at_ else st1).bump 1) ∧ ((if st1.ok = true ∧ nxt s st1 0 ≠ 41 then st1.fail 5 r.2.at_ else st1).bump 1).at_ = r.2.at_ + 1 := by
    split
    · exact ⟨(h3.fail (by decide)).bump1 (by rw [St.fail_ok _ (by decide)]; exact (fun h => nomatch h)), by show (st1.fail 5 r.2.at_).at_ + 1 = _; rw [St.fail_at, hat]⟩
    · rename_i hn
      exact ⟨h3.bump1 fun hok => nxt_in (s := s) (k := 0) (by intro h4; exact hn ⟨hok, by rw [h4]; decide⟩), by show st1.at_ + 1 = _; rw [hat]⟩
  generalize (if st1.ok = true ∧ nxt s st1 0 ≠ 41 then st1.fail 5 r.2.at_ else st1).bump 1 = st2 at h4
  refine ⟨h4.1, (under1_tr rfl hd h2).mono (Int.le_refl _) ?_, ?_⟩
  · rw [h4.2]; show 2 * (r.2.at_ - st.at_) + 2 + 1 ≤ _; omega
  · rw [h4.2]; omega
theorem groupP_fwd {st : St} (halt : AltOk s c d alt) (hd : 0 ≤ d) (hok : st.ok = true) (ha : st.at_ < s.length) (h9 : st.caps ≤ 9) :
    Fwd s (c + 1) st (groupP s alt st).2 ∧ Tr (d + 1) (2 * ((groupP s alt st).2.at_ - st.at_)) (groupP s alt st).1 ∧ ((groupP s alt st).2.ok = true → st.at_ + 1 ≤ (groupP s alt st).2.at_) := by
  have h0 : Fwd s (c + 1) st st := Fwd.refl _ (Nat.le_of_lt ha) h9
  have hf : ∀ e b, e ≠ 0 → Fwd s (c + 1) st (st.fail e b) ∧ Tr (d + 1) (2 * ((st.fail e b).at_ - st.at_)) [] ∧ ((st.fail e b).ok = true → st.at_ + 1 ≤ (st.fail e b).at_) :=
    fun e b he => ⟨h0.fail he, Tr.nil_, by rw [St.fail_ok _ he]; exact (fun h => nomatch h)⟩
  unfold groupP
  split
  · exact hf _ _ (by decide)
  · split
    · rename_i _ h
      have h3 := nxt_in (s := s) (k := 2) (st := st) (by omega)
      have h4 := (Fwd.refl 0 (Nat.le_of_lt ha) h9).bump 3 h3
      have h5 := groupIn_fwd (n := 0) (st := st.bump 3) halt hd hok h4
      have h6 : (st.bump 3).at_ = st.at_ + 3 := rfl
      refine ⟨h5.1, h5.2.1.mono (Int.le_refl _) ?_, fun _ => ?_⟩
      · have := h5.2.2; omega
      · have := h5.2.2; omega
    · split
      · exact hf _ _ (by decide)
      · split
        · exact hf _ _ (by decide)
        · rename_i hc
          have h4 : Fwd s 0 st { st.bump 1 with caps := st.caps + 1 } := ⟨Nat.le_add_right _ _, ha, fun _ => ha, rfl, Nat.le_add_right _ _, by show st.caps + 1 ≤ 9; omega⟩
          have h5 := groupIn_fwd (n := st.caps + 1) halt hd (st := { st.bump 1 with caps := st.caps + 1 }) hok h4
          have h6 : ({ st.bump 1 with caps := st.caps + 1 } : St).at_ = st.at_ + 1 := rfl
          refine ⟨h5.1, h5.2.1.mono (Int.le_refl _) ?_, fun _ => ?_⟩
          · have := h5.2.2; omega
          · have := h5.2.2; omega
theorem atomP_fwd {st : St} (halt : AltOk s c d alt) (hd : 0 ≤ d) (hok : st.ok = true) (ha : st.at_ < s.length) (h9 : st.caps ≤ 9) :
    Fwd s (c + 1) st (atomP s alt st).2 ∧ Tr (d + 1) (2 * ((atomP s alt st).2.at_ - st.at_)) (atomP s alt st).1 ∧ ((atomP s alt st).2.ok = true → st.at_ + 1 ≤ (atomP s alt st).2.at_) := by
  have h0 : Fwd s (c + 1) st st := Fwd.refl _ (Nat.le_of_lt ha) h9
  have hb : Fwd s (c + 1) st (st.bump 1) := h0.bump 1 ha
  have h1 : (st.bump 1).at_ = st.at_ + 1 := rfl
  unfold atomP
  simp only
  split
  · exact ⟨h0.fail (by decide), Tr.nil_, by rw [St.fail_ok _ (by decide)]; exact (fun h => nomatch h)⟩
  split
  · exact groupP_fwd halt hd hok ha h9
  split
  · have h2 := (Fwd.refl 0 (Nat.le_of_lt ha) h9).bump 1 ha
    have h3 := classP_fwd (s := s) (st := st.bump 1) ha h9
    have h4 := classP_len (s := s) (st.bump 1)
    have h5 := h3.mono
    exact ⟨(hb.trans (h3.mono_c (by omega))), ⟨by rw [h4.1]; omega, fun x hx => by have := h4.2 x hx; omega⟩, fun _ => by omega⟩
  split
  · have h3 := escaped_fwd (s := s) ha h9
    have h4 := escaped_len (s := s) st
    have h5 := escaped_more (s := s) st
    exact ⟨h3.mono_c (by omega), ⟨by have := h4.1; omega, fun x hx => by have := h4.2 x hx; omega⟩, fun _ => h5⟩
  split
  · exact ⟨hb, Tr.one rfl (by omega) (by dsimp only; omega), fun _ => by dsimp only; omega⟩
  · exact ⟨hb, Tr.one rfl (by omega) (by dsimp only; omega), fun _ => by dsimp only; omega⟩
theorem itemP_fwd {st : St} (halt : AltOk s c d alt) (hd : 0 ≤ d) (hok : st.ok = true) (ha : st.at_ < s.length) (h9 : st.caps ≤ 9) :
    Fwd s (c + 1) st (itemP s alt st).2 ∧ Tr (d + 2) (2 * ((itemP s alt st).2.at_ - st.at_)) (itemP s alt st).1 ∧ ((itemP s alt st).2.ok = true → st.at_ + 1 ≤ (itemP s alt st).2.at_) := by
  have h0 : Fwd s (c + 1) st st := Fwd.refl _ (Nat.le_of_lt ha) h9
  have hb : Fwd s (c + 1) st (st.bump 1) := h0.bump 1 ha
  have h1 : (st.bump 1).at_ = st.at_ + 1 := rfl
  unfold itemP
  simp only
  split
  · exact ⟨hb, Tr.one rfl (by omega) (by dsimp only; omega), fun _ => by dsimp only; omega⟩
  split
  · exact ⟨hb, Tr.one rfl (by omega) (by dsimp only; omega), fun _ => by dsimp only; omega⟩
  have h2 := atomP_fwd halt hd hok ha h9
  generalize atomP s alt st = a at h2
  split
  · rename_i hk
    have h3 := h2.2.2 hk
    have h4 := repeatP_fwd (s := s) (h2.1.okl hk) h2.1.caps9 (show 0 ≤ d + 1 by omega) h2.2.1
    have h5 := h4.1.mono
    exact ⟨h2.1.trans (h4.1.mono_c (by omega)), h4.2.mono (by omega) (by omega), fun _ => by omega⟩
  · rename_i hk
    exact ⟨h2.1, Tr.nil_, fun h => absurd h hk⟩

theorem rowEnds_no {x : Int} (h : rowEnds x = false) : x ≠ -1 := by rintro rfl; simp [rowEnds] at h
theorem rowLoop_fwd (halt : AltOk s c d alt) (hd : 0 ≤ d) : ∀ (n : Nat) (st0 st : St) (items : List (List ReN)), Fwd s (c + 1) st0 st → s.length + 1 ≤ n + st.at_ →
    (∀ l ∈ items, ∀ x ∈ l, 0 ≤ x.deep ∧ x.deep ≤ d + 2) → items.flatten.length ≤ 2 * (st.at_ - st0.at_) →
    Fwd s (c + 1) st0 (rowLoop s alt n st items).2 ∧ Tr (d + 3) (2 * ((rowLoop s alt n st items).2.at_ - st0.at_) + 1) (rowLoop s alt n st items).1
  | 0, st0, st, items, h, hn, _, _ => ⟨h, Tr.nil_⟩
  | n + 1, st0, st, items, h, hn, hi, hl => by
    unfold rowLoop
    rcases hok : st.ok with _ | _
    · exact ⟨h, Tr.nil_⟩
    · rcases he : rowEnds (nxt s st 0) with _ | _
      · simp only [if_true, Bool.false_eq_true, if_false]
        have ha := nxt_in (s := s) (k := 0) (st := st) (rowEnds_no he)
        have h2 := itemP_fwd halt hd hok ha h.caps9
        have hm := h2.1.mono
        have hm0 := h.mono
        have hflat : (items ++ [(itemP s alt st).1]).flatten.length ≤ 2 * ((itemP s alt st).2.at_ - st0.at_) := by
          rw [List.flatten_append, List.length_append, List.flatten_singleton]
          have := h2.2.1.1
          omega
        have hall : ∀ l ∈ items ++ [(itemP s alt st).1], ∀ x ∈ l, 0 ≤ x.deep ∧ x.deep ≤ d + 2 := by
          intro l hl x hx
          rcases List.mem_append.1 hl with hl | hl
          · exact hi l hl x hx
          · simp at hl; subst hl; exact h2.2.1.2 x hx
        rcases hko : (itemP s alt st).2.ok with _ | _
        · have e : rowLoop s alt n (itemP s alt st).2 (items ++ [(itemP s alt st).1]) = ([], (itemP s alt st).2) := by
            cases n with
            | zero => rfl
            | succ n => unfold rowLoop; rw [hko]; rfl
          rw [e]; exact ⟨h.trans h2.1, Tr.nil_⟩
        · have h3 := h2.2.2 hko
          exact rowLoop_fwd halt hd n st0 _ _ (h.trans h2.1) (by omega) hall hflat
      · simp only [if_true]
        refine ⟨h, ?_⟩
        have := under_tr (top := node 0 0 0 false false []) rfl (show 0 ≤ d + 2 by omega) hi
        exact this.mono (by omega) (by omega)
theorem rowP_fwd (halt : AltOk s c d alt) (hd : 0 ≤ d) {st : St} (ha : st.at_ ≤ s.length) (h9 : st.caps ≤ 9) :
    Fwd s (c + 1) st (rowP s alt st).2 ∧ Tr (d + 3) (2 * ((rowP s alt st).2.at_ - st.at_) + 1) (rowP s alt st).1 :=
  rowLoop_fwd halt hd _ st st [] (Fwd.refl _ ha h9) (by omega) (by simp) (by simp)
theorem altLoop_fwd (halt : AltOk s c d alt) (hd : 0 ≤ d) : ∀ (n : Nat) (st0 st : St) (rows : List (List ReN)), Fwd s (c + 1) st0 st → s.length + 1 ≤ n + st.at_ ∨ st.ok = false →
    (∀ l ∈ rows, ∀ x ∈ l, 0 ≤ x.deep ∧ x.deep ≤ d + 3) → 1 ≤ rows.length → rows.flatten.length ≤ 2 * (st.at_ - st0.at_) + 1 →
    Fwd s (c + 1) st0 (altLoop s alt n st rows).2 ∧ (∀ l ∈ (altLoop s alt n st rows).1, ∀ x ∈ l, 0 ≤ x.deep ∧ x.deep ≤ d + 3) ∧ 1 ≤ (altLoop s alt n st rows).1.length ∧ (altLoop s alt n st rows).1.flatten.length ≤ 2 * ((altLoop s alt n st rows).2.at_ - st0.at_) + 1
  | 0, st0, st, rows, h, _, hi, h1, hl => ⟨h, hi, h1, hl⟩
  | n + 1, st0, st, rows, h, hn, hi, h1, hl => by
    unfold altLoop
    split
    · rename_i hc
      simp only [Bool.and_eq_true, decide_eq_true_eq] at hc
      have ha := nxt_in (s := s) (k := 0) (st := st) (by omega)
      have hb := h.bump 1 ha
      have hst : (st.bump 1).at_ = st.at_ + 1 := rfl
      have h2 := rowP_fwd halt hd (st := st.bump 1) ha hb.caps9
      have hm := h2.1.mono
      have hm0 := h.mono
      refine altLoop_fwd halt hd n st0 _ _ (hb.trans h2.1) ?_ ?_ ?_ ?_
      · rcases hn with hn | hn
        · left; omega
        · rw [hc.1] at hn; cases hn
      · intro l hl x hx
        rcases List.mem_append.1 hl with hl | hl
        · exact hi l hl x hx
        · simp at hl; subst hl; exact h2.2.2 x hx
      · simp
      · rw [List.flatten_append, List.length_append, List.flatten_singleton]
        have := h2.2.1
        omega
    · exact ⟨h, hi, h1, hl⟩
theorem altP_ok (halt : AltOk s c d alt) (hd : 0 ≤ d) : AltOk s (c + 1) (d + 4) (altP s alt) := by
  intro st hok ha h9
  have h := rowP_fwd halt hd (st := st) ha h9
  have h2 := altLoop_fwd halt hd (s.length + 2 - (rowP s alt st).2.at_) st (rowP s alt st).2 [(rowP s alt st).1] h.1 (by
    rcases hk : (rowP s alt st).2.ok with _ | _
    · right; rfl
    · left; have := h.1.okl hk; omega) (by intro l hl x hx; simp at hl; subst hl; exact h.2.2 x hx) (by simp) (by simpa using h.2.1)
  unfold altP
  simp only
  generalize altLoop s alt (s.length + 2 - (rowP s alt st).2.at_) (rowP s alt st).2 [(rowP s alt st).1] = q at h2 ⊢
  refine ⟨h2.1, ?_⟩
  obtain ⟨_, h3, h4, h5⟩ := h2
  split
  · rename_i h1
    match hq : q.1, h1 with
    | [l], _ =>
      rw [hq] at h3 h5
      exact ⟨by have : (List.flatten [l]).length = l.length := by simp
                simp only [List.headD]; omega, fun x hx => by have := h3 l (by simp) x hx; omega⟩
  · have := under_tr (top := node 1 0 0 false false []) rfl (show 0 ≤ d + 3 by omega) h3
    exact this.mono (by omega) (by omega)
theorem altN_ok (s : List Int) : ∀ n, AltOk s (n + 2) (4 * n + 4) (altN s n)
  | 0 => (altP_ok (c := 1) (d := 0) AltOk.stub (by decide)).weak (by omega) (by decide)
  | n + 1 => by
    have := altP_ok (altN_ok s n) (by omega)
    exact this.weak (by omega) (by push_cast; omega)
end
end Go.Proofs.Ytfblkahjefdmaaa.RX
