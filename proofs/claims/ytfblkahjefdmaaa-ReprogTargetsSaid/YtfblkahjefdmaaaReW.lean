/- Plain law: what the reader of regular texts reads is a tree. No program in sight. -/
import Derived.Test.YtfblkahjefdmaaaReR
namespace Go.Proofs.Ytfblkahjefdmaaa.RX

section
variable {s : List Int}
theorem member_caps (st : St) : (member s st).2.2.caps = st.caps := by
  unfold member; simp only
  split
  · exact St.fail_caps _ _ _
  · split
    · split
      · rw [St.fail_caps]; rfl
      · rfl
    · rfl
theorem rangeEnd_caps (st : St) : (rangeEnd s st).2.caps = st.caps := by
  unfold rangeEnd; split
  · show (member s ((member s st).2.2.bump 1)).2.2.caps = _
    rw [member_caps]; exact member_caps st
  · exact member_caps st
theorem classRound_caps (st : St) (set : List Int) : (classRound s st set).2.caps = st.caps := by
  rcases hm : (member s st).2.1 with _ | l
  · rw [classRound_one hm]; simp only
    split
    · rw [St.fail_caps]; exact rangeEnd_caps st
    · exact rangeEnd_caps st
  · rw [classRound_sort hm]; exact member_caps st
theorem classLoop_caps : ∀ (n : Nat) (st : St) (set : List Int), (classLoop s n st set).2.caps = st.caps
  | 0, _, _ => rfl
  | n + 1, st, set => by
    rcases hc : (st.ok && (set.isEmpty || decide (nxt s st 0 ≠ 93))) with _ | _
    · rw [classLoop_off hc]
    · rw [classLoop_on hc, classLoop_caps n, classRound_caps]
theorem classP_caps (st : St) : (classP s st).2.caps = st.caps := by
  unfold classP; simp only
  show (classLoop _ _ _ _).2.caps = _
  rw [classLoop_caps]; split <;> rfl
theorem escaped_caps (st : St) : (escaped s st).2.caps = st.caps := by
  unfold escaped; simp only
  split
  · rfl
  · split
    · rfl
    · split
      · rfl
      · rw [St.fail_caps]; rfl
theorem must_caps (st : St) : (must s st).2.caps = st.caps := by
  unfold must; split
  · exact St.fail_caps _ _ _
  · rfl
theorem high_caps (lo : Int) (st : St) : (high s lo st).2.caps = st.caps := by
  unfold high; split
  · split
    · rw [must_caps]; rfl
    · rfl
  · rfl
theorem ite_caps {p : Prop} [Decidable p] {a b : St} {c : Nat} (h1 : a.caps = c) (h2 : b.caps = c) : (if p then a else b).caps = c := by split <;> assumption
theorem bounds_caps (st : St) : (bounds s st).2.2.caps = st.caps := by
  have h : (high s (must s (st.bump 1)).1 (must s (st.bump 1)).2).2.caps = st.caps := by rw [high_caps, must_caps]; rfl
  unfold bounds; simp only
  refine ite_caps ?_ ?_
  · rw [St.fail_caps]; exact ite_caps (a := St.fail _ _ _) (by rw [St.fail_caps]; exact h) h
  · exact ite_caps (a := St.fail _ _ _) (by rw [St.fail_caps]; exact h) h
theorem bounds_ord {st : St} (h : (bounds s st).2.2.ok = true) : 0 ≤ (bounds s st).2.1 → (bounds s st).1 ≤ (bounds s st).2.1 := by
  intro h0
  unfold bounds at h h0 ⊢
  simp only at h h0 ⊢
  generalize high s (must s (st.bump 1)).1 (must s (st.bump 1)).2 = b at h h0 ⊢
  generalize (must s (st.bump 1)).1 = lo at h ⊢
  generalize (if b.2.ok = true ∧ nxt s b.2 0 ≠ 125 then b.2.fail 5 b.2.at_ else b.2).bump 1 = st1 at h
  split at h
  · rw [St.fail_ok _ (by decide)] at h; cases h
  · rename_i hn
    by_cases h2 : b.1 < lo
    · exact absurd ⟨h, h0, h2⟩ hn
    · omega
theorem repTop_caps {st st1 : St} {lo hi : Int} (h : repTop s st = some (lo, hi, st1)) : st1.caps = st.caps ∧ (st1.ok = true → 0 ≤ hi → lo ≤ hi) := by
  unfold repTop at h
  simp only at h
  split at h
  · injection h with h; injection h with h1 h; injection h with h2 h; subst h h1 h2; exact ⟨rfl, fun _ h => by omega⟩
  · split at h
    · injection h with h; injection h with h1 h; injection h with h2 h; subst h h1 h2; exact ⟨rfl, fun _ h => by omega⟩
    · split at h
      · injection h with h; injection h with h1 h; injection h with h2 h; subst h h1 h2; exact ⟨rfl, fun _ h => by omega⟩
      · split at h
        · injection h with h; injection h with h1 h; injection h with h2 h; subst h h1 h2; exact ⟨bounds_caps st, bounds_ord⟩
        · cases h
theorem repeatP_wf {st : St} {atom : List ReN} {a b : Int} (ha : WF atom a b) (hok : (repeatP s atom st).2.ok = true) : WF (repeatP s atom st).1 a b ∧ (repeatP s atom st).2.caps = st.caps := by
  unfold repeatP at hok ⊢
  rcases hr : repTop s st with _ | ⟨lo, hi, st1⟩
  · exact ⟨ha, rfl⟩
  · rw [hr] at hok
    simp only at hok ⊢
    have h := repTop_caps hr
    have hok1 : st1.ok = true := by split at hok <;> exact hok
    refine ⟨.rep _ _ _ _ rfl rfl (h.2 hok1) ha, ?_⟩
    split
    · exact h.1
    · exact h.1
theorem set_wf {a : Int} (h : 0 ≤ a) (ng : Bool) {set : List Int} (h1 : 0 < set.length) (h2 : set.length % 2 = 0) : WF [node 2 0 0 false ng set] a a := .leaf _ a h rfl (.inr (.inr ⟨rfl, h1, h2⟩))
theorem escaped_wf {st : St} {a : Int} (h0 : 0 ≤ a) (hok : (escaped s st).2.ok = true) : WF (escaped s st).1 a a := by
  unfold escaped at hok ⊢
  simp only at hok ⊢
  split at hok
  · rename_i l hl
    have := sort_len hl
    exact set_wf h0 _ (by omega) this.2.2
  · split at hok
    · rename_i l hl2
      have := sort_len hl2
      exact set_wf h0 _ (by omega) this.2.2
    · split at hok
      · exact set_wf h0 _ (by simp) (by simp)
      · rw [St.fail_ok _ (by decide)] at hok; cases hok
theorem classP_wf {st : St} {a : Int} (h0 : 0 ≤ a) (ha : st.at_ ≤ s.length) (h9 : st.caps ≤ 9) (hok : (classP s st).2.ok = true) : WF (classP s st).1 a a := by
  unfold classP at hok ⊢
  simp only at hok ⊢
  have h1 : Fwd s 0 st (if decide (nxt s st 0 = 94) = true then st.bump 1 else st) := by
    split
    · rename_i h
      have h : nxt s st 0 = 94 := of_decide_eq_true h
      exact (Fwd.refl 0 ha h9).bump 1 (nxt_in (k := 0) (by omega))
    · exact Fwd.refl 0 ha h9
  generalize (if decide (nxt s st 0 = 94) = true then st.bump 1 else st) = st1 at h1 hok ⊢
  have h2 := classLoop_end (s := s) (s.length + 2 - st1.at_) (set := []) h1.hi h1.caps9 (by omega) hok
  have h3 := (classLoop_len (s := s) (s.length + 2 - st1.at_) st1 []).2
  refine set_wf h0 _ ?_ h3
  exact List.length_pos_iff.2 h2.2

def AltWf (s : List Int) (alt : St → List ReN × St) (o : Nat) : Prop :=
  ∀ st : St, st.op = o → st.ok = true → st.at_ ≤ s.length → st.caps ≤ 9 → (alt st).2.ok = true → WF (alt st).1 st.caps (alt st).2.caps
variable {o : Nat} {d : Int} {alt : St → List ReN × St}
theorem groupIn_wf {n : Int} {st : St} {a : Int} (halt : AltWf s alt (o + 1)) (hop : st.op = o) (hok : st.ok = true) (ha : st.at_ ≤ s.length) (h9 : st.caps ≤ 9) (hr : (groupIn s alt n st).2.ok = true)
    (h : n = 0 ∧ (st.caps : Int) = a ∨ 0 ≤ a ∧ n = a + 1 ∧ (st.caps : Int) = a + 1) : WF (groupIn s alt n st).1 a (groupIn s alt n st).2.caps := by
  have h1 := halt { st with op := st.op + 1 } (by show st.op + 1 = _; omega) hok ha h9
  unfold groupIn at hr ⊢
  simp only at hr ⊢
  generalize alt { st with op := st.op + 1 } = r at h1 hr ⊢
  have h2 : r.2.ok = true := by
    rcases hk : r.2.ok with _ | _
    · have e : ({ r.2 with op := r.2.op - 1 } : St).ok = false := hk
      generalize ({ r.2 with op := r.2.op - 1 } : St) = q at e hr
      split at hr
      · have : (q.fail 5 r.2.at_).ok = true := hr
        rw [St.fail_ok _ (by decide)] at this; cases this
      · have : q.ok = true := hr
        rw [e] at this; cases this
    · rfl
  have h3 := h1 h2
  have h4 : ((if ({ r.2 with op := r.2.op - 1 } : St).ok = true ∧ nxt s { r.2 with op := r.2.op - 1 } 0 ≠ 41 then ({ r.2 with op := r.2.op - 1 } : St).fail 5 r.2.at_ else { r.2 with op := r.2.op - 1 }).bump 1).caps = r.2.caps := by
    show (if _ then _ else _ : St).caps = _
    exact ite_caps (by rw [St.fail_caps]) rfl
  rw [h4]
  rcases h with ⟨rfl, h⟩ | ⟨h0, rfl, h⟩
  · exact .grp _ _ _ _ rfl rfl rfl (h ▸ h3)
  · exact .num _ _ _ _ h0 rfl rfl rfl (h ▸ h3)
theorem groupP_wf {st : St} (halt : o < 12 → AltWf s alt (o + 1)) (hop : st.op = o) (hok : st.ok = true) (ha : st.at_ < s.length) (h9 : st.caps ≤ 9) (hr : (groupP s alt st).2.ok = true) : WF (groupP s alt st).1 st.caps (groupP s alt st).2.caps := by
  unfold groupP at hr ⊢
  split at hr
  · rw [St.fail_ok _ (by decide)] at hr; cases hr
  · rename_i n1
    rw [if_neg n1]
    split at hr
    · rename_i n2
      rw [if_pos n2]
      have h3 := nxt_in (s := s) (k := 2) (st := st) (by omega)
      exact groupIn_wf (st := st.bump 3) (halt (by omega)) hop hok h3 h9 hr (.inl ⟨rfl, rfl⟩)
    · rename_i n2
      rw [if_neg n2]
      split at hr
      · rw [St.fail_ok _ (by decide)] at hr; cases hr
      · rename_i n3
        rw [if_neg n3]
        split at hr
        · rw [St.fail_ok _ (by decide)] at hr; cases hr
        · rename_i n4
          rw [if_neg n4]
          exact groupIn_wf (st := { st.bump 1 with caps := st.caps + 1 }) (halt (by omega)) hop hok ha (by show st.caps + 1 ≤ 9; omega) hr (.inr ⟨by omega, rfl, by push_cast; rfl⟩)
theorem atomP_wf {st : St} (halt : o < 12 → AltWf s alt (o + 1)) (hop : st.op = o) (hok : st.ok = true) (ha : st.at_ < s.length) (h9 : st.caps ≤ 9) (hr : (atomP s alt st).2.ok = true) : WF (atomP s alt st).1 st.caps (atomP s alt st).2.caps := by
  unfold atomP at hr ⊢
  simp only at hr ⊢
  split at hr
  · rw [St.fail_ok _ (by decide)] at hr; cases hr
  rename_i n1; rw [if_neg n1]
  split at hr
  · rename_i n2; rw [if_pos n2]; exact groupP_wf halt hop hok ha h9 hr
  rename_i n2; rw [if_neg n2]
  split at hr
  · rename_i n3; rw [if_pos n3]
    rw [classP_caps]; exact classP_wf (st := st.bump 1) (by omega) ha h9 hr
  rename_i n3; rw [if_neg n3]
  split at hr
  · rename_i n4; rw [if_pos n4]
    rw [escaped_caps]; exact escaped_wf (by omega) hr
  rename_i n4; rw [if_neg n4]
  split
  · exact set_wf (by omega) _ (by decide) rfl
  · exact set_wf (by omega) _ (by simp) (by simp)
theorem itemP_wf {st : St} (halt : o < 12 → AltWf s alt (o + 1)) (hop : st.op = o) (hok : st.ok = true) (ha : st.at_ < s.length) (h9 : st.caps ≤ 9) (hr : (itemP s alt st).2.ok = true) : WF (itemP s alt st).1 st.caps (itemP s alt st).2.caps := by
  unfold itemP at hr ⊢
  simp only at hr ⊢
  split at hr
  · rename_i n1; rw [if_pos n1]; exact .leaf _ _ (by omega) rfl (.inl rfl)
  rename_i n1; rw [if_neg n1]
  split at hr
  · rename_i n2; rw [if_pos n2]; exact .leaf _ _ (by omega) rfl (.inr (.inl rfl))
  rename_i n2; rw [if_neg n2]
  split at hr
  · rename_i n3; rw [if_pos n3]
    have h := repeatP_wf (atomP_wf halt hop hok ha h9 n3) hr
    rw [h.2]; exact h.1
  · rename_i n3; exact absurd hr n3
theorem WFs.snoc : ∀ {ls : List (List ReN)} {a b c : Int} {l : List ReN}, WFs ls a b → WF l b c → WFs (ls ++ [l]) a c
  | _, _, _, _, _, .nil a h, hl => .cons _ [] _ _ _ hl (.nil _ (by have := wf_base hl; exact Int.le_trans this.lo this.le))
  | _, _, _, _, _, .cons m ms a b c h hs, hl => .cons m _ _ _ _ h (WFs.snoc hs hl)
def IsSeq (l : List ReN) : Prop := ∃ items, l = under (node 0 0 0 false false []) items
theorem rowLoop_wf {cc : Nat} (halt : o < 12 → AltWf s alt (o + 1)) (hk : AltOk s cc d alt) (hd : 0 ≤ d) : ∀ (n : Nat) (st : St) (items : List (List ReN)) (a : Int), st.op = o → st.at_ ≤ s.length ∨ st.ok = false → st.caps ≤ 9 → (st.ok = true → WFs items a st.caps) → s.length + 1 ≤ n + st.at_ ∨ st.ok = false →
    (rowLoop s alt n st items).2.ok = true → WF (rowLoop s alt n st items).1 a (rowLoop s alt n st items).2.caps ∧ IsSeq (rowLoop s alt n st items).1
  | 0, st, items, a, _, ha, _, _, hn, hr => by
    have hr : st.ok = true := hr
    rcases ha with ha | ha
    · rcases hn with hn | hn
      · omega
      · rw [hr] at hn; cases hn
    · rw [hr] at ha; cases ha
  | n + 1, st, items, a, hop, ha, h9, hw, hn, hr => by
    rcases hok : st.ok with _ | _
    · have e : rowLoop s alt (n + 1) st items = ([], st) := by unfold rowLoop; rw [hok]; rfl
      rw [e] at hr
      have hr : st.ok = true := hr
      rw [hok] at hr; cases hr
    · have ha : st.at_ ≤ s.length := by rcases ha with h | h; exact h; rw [hok] at h; cases h
      have hn : s.length + 1 ≤ n + 1 + st.at_ := by rcases hn with h | h; exact h; rw [hok] at h; cases h
      unfold rowLoop at hr ⊢
      rw [hok] at hr ⊢
      simp only [if_true] at hr ⊢
      rcases he : rowEnds (nxt s st 0) with _ | _
      · rw [he] at hr
        simp only [Bool.false_eq_true, if_false] at hr ⊢
        have hlt := nxt_in (s := s) (k := 0) (st := st) (rowEnds_no he)
        have hf := itemP_fwd hk hd hok hlt h9
        refine rowLoop_wf halt hk hd n _ _ a (hf.1.op.trans hop) ?_ hf.1.caps9 (fun h => (hw hok).snoc (itemP_wf halt hop hok hlt h9 h)) ?_ hr
        · rcases h : (itemP s alt st).2.ok with _ | _
          · exact .inr rfl
          · exact .inl (hf.1.okl h)
        · rcases h : (itemP s alt st).2.ok with _ | _
          · exact .inr rfl
          · left; have := hf.2.2 h; omega
      · exact ⟨.seq _ _ _ _ rfl rfl (hw hok), _, rfl⟩
theorem rowP_wf {cc : Nat} (halt : o < 12 → AltWf s alt (o + 1)) (hk : AltOk s cc d alt) (hd : 0 ≤ d) {st : St} (hop : st.op = o) (ha : st.at_ ≤ s.length) (h9 : st.caps ≤ 9) (hr : (rowP s alt st).2.ok = true) : WF (rowP s alt st).1 st.caps (rowP s alt st).2.caps ∧ IsSeq (rowP s alt st).1 :=
  rowLoop_wf halt hk hd _ st [] _ hop (.inl ha) h9 (fun _ => .nil _ (by omega)) (by left; omega) hr
theorem altLoop_wf {cc : Nat} (halt : o < 12 → AltWf s alt (o + 1)) (hk : AltOk s cc d alt) (hd : 0 ≤ d) : ∀ (n : Nat) (st : St) (rows : List (List ReN)) (a : Int), st.op = o → st.caps ≤ 9 → 1 ≤ rows.length → (st.ok = true → WFs rows a st.caps ∧ ∀ l ∈ rows, IsSeq l) →
    (altLoop s alt n st rows).2.ok = true → WFs (altLoop s alt n st rows).1 a (altLoop s alt n st rows).2.caps ∧ (∀ l ∈ (altLoop s alt n st rows).1, IsSeq l) ∧ 1 ≤ (altLoop s alt n st rows).1.length
  | 0, _, _, _, _, _, h1, hw, hr => ⟨(hw hr).1, (hw hr).2, h1⟩
  | n + 1, st, rows, a, hop, h9, h1, hw, hr => by
    unfold altLoop at hr ⊢
    split at hr
    · rename_i hc
      rw [if_pos hc]
      simp only [Bool.and_eq_true, decide_eq_true_eq] at hc
      have hlt := nxt_in (s := s) (k := 0) (st := st) (by omega)
      have hf := rowP_fwd hk hd (st := st.bump 1) hlt h9
      refine altLoop_wf halt hk hd n _ _ a (hf.1.op.trans hop) hf.1.caps9 (by simp) (fun h => ?_) hr
      have hw1 := hw hc.1
      have hrw := rowP_wf halt hk hd (st := st.bump 1) hop hlt h9 h
      refine ⟨hw1.1.snoc hrw.1, fun l hl => ?_⟩
      rcases List.mem_append.1 hl with hl | hl
      · exact hw1.2 l hl
      · simp at hl; subst hl; exact hrw.2
    · rename_i hc
      rw [if_neg hc]
      exact ⟨(hw hr).1, (hw hr).2, h1⟩
/-- The outermost node. -/
def Outer (l : List ReN) : Prop := ∃ x r, l = x :: r ∧ (x.kind = 0 ∨ x.kind = 1)
theorem altP_wf {cc : Nat} (halt : o < 12 → AltWf s alt (o + 1)) (hk : AltOk s cc d alt) (hd : 0 ≤ d) {st : St} (hop : st.op = o) (ha : st.at_ ≤ s.length) (h9 : st.caps ≤ 9) (hr : (altP s alt st).2.ok = true) : WF (altP s alt st).1 st.caps (altP s alt st).2.caps ∧ Outer (altP s alt st).1 := by
  have hf := rowP_fwd hk hd (st := st) ha h9
  have h := altLoop_wf halt hk hd (s.length + 2 - (rowP s alt st).2.at_) (rowP s alt st).2 [(rowP s alt st).1] st.caps (hf.1.op.trans hop) hf.1.caps9 (by simp) (fun h => by
    have hrw := rowP_wf halt hk hd hop ha h9 h
    exact ⟨WFs.one hrw.1 (by omega), by intro l hl; simp at hl; subst hl; exact hrw.2⟩)
  unfold altP at hr ⊢
  simp only at hr ⊢
  generalize altLoop s alt (s.length + 2 - (rowP s alt st).2.at_) (rowP s alt st).2 [(rowP s alt st).1] = q at h hr ⊢
  obtain ⟨h1, h2, h3⟩ := h hr
  split
  · rename_i hl
    match hq : q.1, hl with
    | [l], _ =>
      rw [hq] at h1 h2
      obtain ⟨items, hi⟩ := h2 l (by simp)
      cases h1 with
      | cons _ _ _ b _ hw hs =>
        cases hs with
        | nil _ _ => exact ⟨hw, by simp only [List.headD]; rw [hi]; exact ⟨_, _, rfl, .inl rfl⟩⟩
  · exact ⟨.alt _ _ _ _ rfl rfl (by omega) h1, _, _, rfl, .inr rfl⟩
/-- The levels: within the innermost one no group is begun. -/
theorem altN_wf (s : List Int) : ∀ (n : Nat) (st : St), st.op + n = 12 → st.ok = true → st.at_ ≤ s.length → st.caps ≤ 9 → (altN s n st).2.ok = true → WF (altN s n st).1 st.caps (altN s n st).2.caps ∧ Outer (altN s n st).1
  | 0, st, ho, _, ha, h9, hr => altP_wf (o := st.op) (cc := 0) (d := 0) (fun h => by omega) AltOk.stub (by decide) rfl ha h9 hr
  | n + 1, st, ho, _, ha, h9, hr => altP_wf (o := st.op) (fun _ st' ho' hok' ha' h9' hr' => (altN_wf s n st' (by omega) hok' ha' h9' hr').1) (altN_ok s n) (by omega) rfl ha h9 hr
theorem parse_wf {s : List Int} {l : List ReN} {p : Int} (h : parse s = (l, 0, p)) : ∃ b, WF l 0 b ∧ Outer l := by
  unfold parse at h
  split at h
  · injection h with _ h; injection h with h _; omega
  · split at h
    · injection h with _ h; injection h with h _; omega
    · simp only at h
      obtain ⟨r, hr⟩ : ∃ r, altN s 12 ⟨0, 0, 0, 0, 0⟩ = r := ⟨_, rfl⟩
      rw [hr] at h
      generalize h2 : (if r.2.ok = true ∧ r.2.at_ < s.length then r.2.fail 5 r.2.at_ else r.2) = st2 at h
      by_cases hok : st2.ok = true
      · rw [if_pos hok] at h
        injection h with h1 _
        have hrk : r.2.ok = true := by
          rw [← h2] at hok
          split at hok
          · rw [St.fail_ok _ (by decide)] at hok; cases hok
          · exact hok
        have := altN_wf s 12 ⟨0, 0, 0, 0, 0⟩ rfl rfl (Nat.zero_le _) (by decide) (by rw [hr]; exact hrk)
        rw [hr, h1] at this
        exact ⟨_, this.1, this.2⟩
      · rw [if_neg hok] at h
        injection h with _ h
        injection h with h _
        exact absurd (show st2.ok = true by unfold St.ok; rw [h]; rfl) hok
end
end Go.Proofs.Ytfblkahjefdmaaa.RX
