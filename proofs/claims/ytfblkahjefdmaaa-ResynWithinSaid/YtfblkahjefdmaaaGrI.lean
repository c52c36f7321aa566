/- Plain law: texts that are made of elements: items, rows, alternatives, groups. No program in sight. -/
import Derived.Test.YtfblkahjefdmaaaGrS
namespace Go.Proofs.Ytfblkahjefdmaaa.RX

/-- What a level's groups hold. -/
def altL (s : List Int) : Nat → St → List ReN × St
  | 0 => fun st => ([], st)
  | n + 1 => altN s n
theorem altN_eq (s : List Int) (n : Nat) : altN s n = altP s (altL s n) := by cases n <;> rfl

/-- A text that is read, by a part of the reader: whole, or refused where there are too many groups. -/
def Reads (f : List Int → St → List ReN × St) (n : Nat) (Stop : List Int → Prop) (X : Sp) : Prop :=
  ∀ (s rest : List Int) (st : St), st.ok = true → st.op + n ≤ 12 → st.caps ≤ 9 → st.at_ ≤ s.length → s.drop st.at_ = X.txt ++ rest → Stop rest →
    (st.caps + X.ng ≤ 9 → f s st = (X.nodes st.caps, st.go X.txt.length X.ng)) ∧ (9 < st.caps + X.ng → (f s st).2.ok = false)
/-- How an element begins. -/
def Begins (x : List Int) : Prop := ∃ c r, x = c :: r ∧ c ≠ 42 ∧ c ≠ 43 ∧ c ≠ 63 ∧ c ≠ 123 ∧ c ≠ -1 ∧ c ≠ 124 ∧ c ≠ 41
theorem Begins.follow {x : List Int} (h : Begins x) (y : List Int) : Follow (x ++ y) := by
  obtain ⟨c, r, rfl, h1, h2, h3, h4, _⟩ := h
  intro d hd
  simp at hd; subst hd
  exact ⟨h1, h2, h3, h4⟩
theorem Begins.pos {x : List Int} (h : Begins x) : 0 < x.length := by obtain ⟨c, r, rfl, _⟩ := h; simp
theorem nxt_head {s x : List Int} {st : St} (h : s.drop st.at_ = x) : nxt s st 0 = (x.head?).getD (-1) := nxt_rest (x := []) h
theorem go_drop {s x rest : List Int} {st : St} (h : s.drop st.at_ = x ++ rest) (g : Nat) : s.drop (st.go x.length g).at_ = rest := by
  show s.drop (st.at_ + x.length) = rest
  rw [← List.drop_drop, h, List.drop_left]
theorem go_le {s x rest : List Int} {st : St} {g : Nat} (hl : st.at_ ≤ s.length) (h : s.drop st.at_ = x ++ rest) : (st.go x.length g).at_ ≤ s.length := by
  have := congrArg List.length h
  rw [List.length_drop, List.length_append] at this
  show st.at_ + x.length ≤ _; omega
theorem go_go (st : St) (a b c d : Nat) : (st.go a b).go c d = st.go (a + c) (b + d) := by unfold St.go; simp only [Nat.add_assoc]
theorem go_bump (st : St) (a b c : Nat) : (st.go a b).bump c = st.go (a + c) b := by unfold St.go St.bump; simp only [Nat.add_assoc]
theorem bump_go (st : St) (a : Nat) : st.bump a = st.go a 0 := rfl
theorem go_ok (st : St) (a b : Nat) : (st.go a b).ok = st.ok := rfl

abbrev Item (n : Nat) (X : Sp) : Prop := Begins X.txt ∧ Reads (fun s => itemP s (altL s n)) n Follow X
abbrev Atom (n : Nat) (X : Sp) : Prop := (Begins X.txt ∧ X.txt.head? ≠ some 94 ∧ X.txt.head? ≠ some 36) ∧ Reads (fun s => atomP s (altL s n)) n (fun _ => True) X

theorem atom_set {n : Nat} {txt set : List Int} {ng : Bool} (hb : Begins txt) (h1 : txt.head? ≠ some 94) (h2 : txt.head? ≠ some 36) (h : SetOk txt ng set) : Atom n ⟨txt, 0, fun _ => [node 2 0 0 false ng set]⟩ :=
  ⟨⟨hb, h1, h2⟩, fun s rest st hok _ _ _ hd _ => ⟨fun _ => h s rest (altL s n) st hok hd, fun h9 => by simp at h9; omega⟩⟩

/-- An element without a repeat. -/
theorem item_bare {n : Nat} {X : Sp} (h : Atom n X) : Item n X := by
  refine ⟨h.1.1, fun s rest st hok hop h9 hl hd hf => ?_⟩
  have h0 := nxt_head hd
  obtain ⟨⟨⟨c, r, hx, _⟩, h1, h2⟩, hr⟩ := h
  rw [hx] at h0 h1 h2
  simp at h0 h1 h2
  have h3 := hr s rest st hok hop h9 hl hd trivial
  have e : itemP s (altL s n) st = if (atomP s (altL s n) st).2.ok then repeatP s (atomP s (altL s n) st).1 (atomP s (altL s n) st).2 else ([], (atomP s (altL s n) st).2) := by
    unfold itemP; simp only [h0, if_neg h1, if_neg h2]
  show (_ → itemP s (altL s n) st = _) ∧ (_ → (itemP s (altL s n) st).2.ok = false)
  rw [e]
  refine ⟨fun hg => ?_, fun hg => ?_⟩
  · have h4 : atomP s (altL s n) st = _ := h3.1 hg
    rw [h4]
    simp only [go_ok, hok, if_true]
    exact repeat_none (go_drop hd _) hf
  · have h4 : (atomP s (altL s n) st).2.ok = false := h3.2 hg
    rw [h4]; exact h4
def withRep (X : Sp) (r : Rp) : Sp := ⟨X.txt ++ r.txt, X.ng, fun c => under (node 6 r.lo r.hi r.lazy false []) [X.nodes c]⟩
theorem item_rep {n : Nat} {X : Sp} {r : Rp} (h : Atom n X) (hrp : RepOk r) : Item n (withRep X r) := by
  refine ⟨?_, fun s rest st hok hop h9 hl hd hf => ?_⟩
  · obtain ⟨⟨⟨c, t, hx, hc⟩, _, _⟩, _⟩ := h
    exact ⟨c, t ++ r.txt, by show X.txt ++ r.txt = _; rw [hx]; rfl, hc⟩
  have hd2 : s.drop st.at_ = X.txt ++ (r.txt ++ rest) := by rw [← List.append_assoc]; exact hd
  have h0 := nxt_head hd2
  obtain ⟨⟨⟨c, t, hx, _⟩, h1, h2⟩, hr⟩ := h
  rw [hx] at h0 h1 h2
  simp at h0 h1 h2
  have h3 := hr s (r.txt ++ rest) st hok hop h9 hl hd2 trivial
  have e : itemP s (altL s n) st = if (atomP s (altL s n) st).2.ok then repeatP s (atomP s (altL s n) st).1 (atomP s (altL s n) st).2 else ([], (atomP s (altL s n) st).2) := by
    unfold itemP; simp only [h0, if_neg h1, if_neg h2]
  show (_ → itemP s (altL s n) st = _) ∧ (_ → (itemP s (altL s n) st).2.ok = false)
  rw [e]
  refine ⟨fun hg => ?_, fun hg => ?_⟩
  · have h4 : atomP s (altL s n) st = _ := h3.1 hg
    rw [h4]
    simp only [go_ok, hok, if_true]
    rw [hrp s rest _ _ (show (st.go X.txt.length X.ng).ok = true from hok) (go_drop hd2 _) hf, go_bump]
    show (_, st.go (X.txt.length + r.txt.length) X.ng) = (_, st.go (X.txt ++ r.txt).length X.ng)
    rw [List.length_append]; rfl
  · have h4 : (atomP s (altL s n) st).2.ok = false := h3.2 hg
    rw [h4]; exact h4
theorem item_edge {n : Nat} {c k : Int} (h : c = 94 ∧ k = 3 ∨ c = 36 ∧ k = 4) : Item n ⟨[c], 0, fun _ => [node k 0 0 false false []]⟩ := by
  refine ⟨⟨c, [], rfl, by omega⟩, fun s rest st hok _ _ _ hd _ => ⟨fun _ => ?_, fun h9 => by simp at h9; omega⟩⟩
  have h0 := nxt_head hd
  simp at h0
  show itemP s (altL s n) st = _
  unfold itemP
  rcases h with ⟨rfl, rfl⟩ | ⟨rfl, rfl⟩
  · simp [h0]; rfl
  · simp [h0]; rfl

/-- Rows of items. -/
def rowTxt (Xs : List Sp) : List Int := (Xs.map Sp.txt).flatten
def rowNg (Xs : List Sp) : Nat := (Xs.map Sp.ng).sum
def rowNodes : Nat → List Sp → List (List ReN)
  | _, [] => []
  | c, X :: r => X.nodes c :: rowNodes (c + X.ng) r
def rowSp (Xs : List Sp) : Sp := ⟨rowTxt Xs, rowNg Xs, fun c => under (node 0 0 0 false false []) (rowNodes c Xs)⟩
def RowStop (rest : List Int) : Prop := rowEnds ((rest.head?).getD (-1)) = true
theorem RowStop.follow {rest : List Int} (h : RowStop rest) : Follow rest := by
  intro c hc
  unfold RowStop at h
  rw [hc] at h
  simp [rowEnds] at h
  omega
theorem follow_row {Xs : List Sp} {rest : List Int} {n : Nat} (h : ∀ X ∈ Xs, Item n X) (hr : RowStop rest) : Follow (rowTxt Xs ++ rest) := by
  cases Xs with
  | nil => exact hr.follow
  | cons X r =>
    have := (h X (by simp)).1.follow (rowTxt r ++ rest)
    unfold rowTxt
    rw [List.map_cons, List.flatten_cons, List.append_assoc]; exact this
theorem rowLoop_read {n : Nat} : ∀ (Xs : List Sp) (s rest : List Int) (st : St) (items : List (List ReN)) (k : Nat), (∀ X ∈ Xs, Item n X) → st.ok = true → st.op + n ≤ 12 → st.caps ≤ 9 → st.at_ ≤ s.length → s.drop st.at_ = rowTxt Xs ++ rest → RowStop rest → Xs.length + 1 ≤ k →
    (st.caps + rowNg Xs ≤ 9 → rowLoop s (altL s n) k st items = (under (node 0 0 0 false false []) (items ++ rowNodes st.caps Xs), st.go (rowTxt Xs).length (rowNg Xs))) ∧ (9 < st.caps + rowNg Xs → (rowLoop s (altL s n) k st items).2.ok = false)
  | [], s, rest, st, items, k, _, hok, _, h9, _, hd, hst, hk => by
    obtain ⟨k, rfl⟩ : ∃ j, k = j + 1 := ⟨k - 1, by simp at hk; omega⟩
    have h0 := nxt_head (x := rest) hd
    refine ⟨fun _ => ?_, fun h => by simp [rowNg] at h; omega⟩
    unfold rowLoop
    rw [hok, h0, hst]
    simp [rowNodes, rowTxt, rowNg, St.go]
  | X :: Xs, s, rest, st, items, k, hi, hok, hop, h9, hl, hd, hst, hk => by
    obtain ⟨k, rfl⟩ : ∃ j, k = j + 1 := ⟨k - 1, by simp at hk; omega⟩
    have hX := hi X (by simp)
    have hd2 : s.drop st.at_ = X.txt ++ (rowTxt Xs ++ rest) := by
      rw [hd]; unfold rowTxt; rw [List.map_cons, List.flatten_cons, List.append_assoc]
    have h0 := nxt_head hd2
    obtain ⟨c, r, hx, hc⟩ := hX.1
    rw [hx] at h0
    simp at h0
    have he : rowEnds (nxt s st 0) = false := by rw [h0]; simp [rowEnds]; omega
    have hr := hX.2 s _ st hok hop h9 hl hd2 (follow_row (fun Y hY => hi Y (by simp [hY])) hst)
    have e : rowLoop s (altL s n) (k + 1) st items = rowLoop s (altL s n) k (itemP s (altL s n) st).2 (items ++ [(itemP s (altL s n) st).1]) := by
      rw [rowLoop, hok, he]; rfl
    rw [e]
    have hng : rowNg (X :: Xs) = X.ng + rowNg Xs := by unfold rowNg; rw [List.map_cons, List.sum_cons]
    have hlen : (rowTxt (X :: Xs)).length = X.txt.length + (rowTxt Xs).length := by unfold rowTxt; rw [List.map_cons, List.flatten_cons, List.length_append]
    by_cases hg : st.caps + X.ng ≤ 9
    · have h4 : itemP s (altL s n) st = _ := hr.1 hg
      rw [h4]
      have ih := rowLoop_read Xs s rest (st.go X.txt.length X.ng) (items ++ [X.nodes st.caps]) k (fun Y hY => hi Y (by simp [hY])) hok hop hg (go_le hl hd2) (go_drop hd2 _) hst (by simp at hk; omega)
      have ec : (st.go X.txt.length X.ng).caps = st.caps + X.ng := rfl
      rw [ec] at ih
      refine ⟨fun h => ?_, fun h => ih.2 (by omega)⟩
      rw [ih.1 (by omega), go_go, hng, hlen, List.append_assoc]; rfl
    · have h4 : (itemP s (altL s n) st).2.ok = false := hr.2 (by omega)
      refine ⟨fun h => by omega, fun _ => ?_⟩
      cases k with
      | zero => exact h4
      | succ k => unfold rowLoop; rw [h4]; exact h4
theorem row_len {n : Nat} : ∀ {Xs : List Sp}, (∀ X ∈ Xs, Item n X) → Xs.length ≤ (rowTxt Xs).length
  | [], _ => by simp [rowTxt]
  | X :: Xs, h => by
    have h1 := (h X (by simp)).1.pos
    have h2 := row_len (Xs := Xs) fun Y hY => h Y (by simp [hY])
    unfold rowTxt at h2 ⊢
    rw [List.map_cons, List.flatten_cons, List.length_append, List.length_cons]; omega
theorem row_read {n : Nat} {Xs : List Sp} (h : ∀ X ∈ Xs, Item n X) : Reads (fun s => rowP s (altL s n)) n RowStop (rowSp Xs) := by
  intro s rest st hok hop h9 hle hd hst
  have hl := row_len h
  have hfuel : Xs.length + 1 ≤ s.length + 2 - st.at_ := by
    have := congrArg List.length hd
    rw [List.length_drop, List.length_append] at this
    have h2 : (rowSp Xs).txt.length = (rowTxt Xs).length := rfl
    omega
  have := rowLoop_read Xs s rest st [] (s.length + 2 - st.at_) h hok hop h9 hle hd hst hfuel
  rw [List.nil_append] at this
  exact this

/-- One row, or two with | between, up to a ) or the end. -/
def AltStop (rest : List Int) : Prop := (rest.head?).getD (-1) = -1 ∨ (rest.head?).getD (-1) = 41
theorem AltStop.row {rest : List Int} (h : AltStop rest) : RowStop rest := by
  unfold RowStop; rcases h with h | h <;> rw [h] <;> rfl
theorem AltStop.ne {rest : List Int} (h : AltStop rest) : (rest.head?).getD (-1) ≠ 124 := by rcases h with h | h <;> rw [h] <;> decide
def alt2Sp (Xs Ys : List Sp) : Sp := ⟨rowTxt Xs ++ (124 :: rowTxt Ys), rowNg Xs + rowNg Ys, fun c => under (node 1 0 0 false false []) [(rowSp Xs).nodes c, (rowSp Ys).nodes (c + rowNg Xs)]⟩
theorem altP_bad {s : List Int} {alt : St → List ReN × St} {st : St} (h : (rowP s alt st).2.ok = false) : (altP s alt st).2.ok = false := by
  unfold altP
  have e : altLoop s alt (s.length + 2 - (rowP s alt st).2.at_) (rowP s alt st).2 [(rowP s alt st).1] = ([(rowP s alt st).1], (rowP s alt st).2) := by
    cases s.length + 2 - (rowP s alt st).2.at_ with
    | zero => rfl
    | succ k => unfold altLoop; rw [h]; rfl
  simp only [e]; exact h
theorem alt1_read {n : Nat} {Xs : List Sp} (h : ∀ X ∈ Xs, Item n X) : Reads (fun s => altP s (altL s n)) n AltStop (rowSp Xs) := by
  intro s rest st hok hop h9 hle hd hst
  have hr := row_read h s rest st hok hop h9 hle hd hst.row
  refine ⟨fun hg => ?_, fun hg => altP_bad (hr.2 hg)⟩
  have h4 : rowP s (altL s n) st = _ := hr.1 hg
  have h5 := nxt_head (go_drop hd (rowNg Xs))
  have e : ∀ k, altLoop s (altL s n) k (st.go (rowSp Xs).txt.length (rowNg Xs)) [(rowSp Xs).nodes st.caps] = ([(rowSp Xs).nodes st.caps], st.go (rowSp Xs).txt.length (rowNg Xs)) := by
    intro k
    cases k with
    | zero => rfl
    | succ k =>
      have : decide (nxt s (st.go (rowSp Xs).txt.length (rowNg Xs)) 0 = 124) = false := by rw [h5]; exact decide_eq_false hst.ne
      unfold altLoop; rw [this, Bool.and_false]; rfl
  show altP s (altL s n) st = _
  unfold altP
  rw [h4]
  simp only
  rw [show (rowSp Xs).ng = rowNg Xs from rfl, e]
  rfl
theorem alt2_read {n : Nat} {Xs Ys : List Sp} (h : ∀ X ∈ Xs, Item n X) (h' : ∀ X ∈ Ys, Item n X) : Reads (fun s => altP s (altL s n)) n AltStop (alt2Sp Xs Ys) := by
  intro s rest st hok hop h9 hle hd hst
  have hd1 : s.drop st.at_ = (rowSp Xs).txt ++ (124 :: (rowTxt Ys ++ rest)) := by rw [hd]; show (rowTxt Xs ++ (124 :: rowTxt Ys)) ++ rest = rowTxt Xs ++ _; rw [List.append_assoc]; rfl
  have hr := row_read h s _ st hok hop h9 hle hd1 (by unfold RowStop; rfl)
  have hng : (alt2Sp Xs Ys).ng = rowNg Xs + rowNg Ys := rfl
  rw [hng]
  by_cases hgx : st.caps + rowNg Xs ≤ 9
  · have h4 : rowP s (altL s n) st = _ := hr.1 hgx
    have hd2 := go_drop hd1 (rowNg Xs)
    have hl2 := go_le (g := rowNg Xs) hle hd1
    have h5 := nxt_head hd2
    simp at h5
    obtain ⟨st2, hst2⟩ : ∃ q, q = st.go (rowSp Xs).txt.length (rowNg Xs) := ⟨_, rfl⟩
    have hd3 : s.drop (st2.bump 1).at_ = (rowSp Ys).txt ++ rest := by
      rw [hst2]
      show s.drop ((st.go (rowSp Xs).txt.length (rowNg Xs)).at_ + 1) = _
      rw [← List.drop_drop, hd2]; rfl
    have hl3 : (st2.bump 1).at_ ≤ s.length := by
      have := congrArg List.length hd2
      rw [List.length_drop] at this
      simp at this
      rw [hst2]
      show (st.go (rowSp Xs).txt.length (rowNg Xs)).at_ + 1 ≤ _
      omega
    have hr2 := row_read h' s rest (st2.bump 1) (by rw [hst2]; exact hok) (by rw [hst2]; exact hop) (by rw [hst2]; exact hgx) hl3 hd3 hst.row
    have hc2 : (st2.bump 1).caps = st.caps + rowNg Xs := by rw [hst2]; rfl
    rw [hc2] at hr2
    obtain ⟨k, hk⟩ : ∃ k, s.length + 2 - st2.at_ = k + 1 := ⟨s.length + 1 - st2.at_, by have : st2.at_ + 1 ≤ s.length := hl3; omega⟩
    have hon : (st2.ok && decide (nxt s st2 0 = 124)) = true := by rw [hst2, go_ok, hok, h5]; rfl
    have e : altP s (altL s n) st = (if (altLoop s (altL s n) (s.length + 2 - st2.at_) st2 [(rowSp Xs).nodes st.caps]).1.length = 1 then (altLoop s (altL s n) (s.length + 2 - st2.at_) st2 [(rowSp Xs).nodes st.caps]).1.headD [] else under (node 1 0 0 false false []) (altLoop s (altL s n) (s.length + 2 - st2.at_) st2 [(rowSp Xs).nodes st.caps]).1, (altLoop s (altL s n) (s.length + 2 - st2.at_) st2 [(rowSp Xs).nodes st.caps]).2) := by
      unfold altP; rw [h4, hst2]; rfl
    show (_ → altP s (altL s n) st = _) ∧ (_ → (altP s (altL s n) st).2.ok = false)
    rw [e, hk]
    have e1 : altLoop s (altL s n) (k + 1) st2 [(rowSp Xs).nodes st.caps] = altLoop s (altL s n) k (rowP s (altL s n) (st2.bump 1)).2 ([(rowSp Xs).nodes st.caps] ++ [(rowP s (altL s n) (st2.bump 1)).1]) := by
      rw [altLoop, if_pos hon]
    rw [e1]
    refine ⟨fun hg => ?_, fun hg => ?_⟩
    · have h6 : rowP s (altL s n) (st2.bump 1) = _ := hr2.1 (by show st.caps + rowNg Xs + rowNg Ys ≤ 9; omega)
      rw [h6]
      have h7 := nxt_head (go_drop hd3 (rowNg Ys))
      have e2 : ∀ (k : Nat) (rows : List (List ReN)), altLoop s (altL s n) k ((st2.bump 1).go (rowSp Ys).txt.length (rowNg Ys)) rows = (rows, (st2.bump 1).go (rowSp Ys).txt.length (rowNg Ys)) := by
        intro k rows
        cases k with
        | zero => rfl
        | succ k =>
          have : decide (nxt s ((st2.bump 1).go (rowSp Ys).txt.length (rowNg Ys)) 0 = 124) = false := by rw [h7]; exact decide_eq_false hst.ne
          unfold altLoop; rw [this, Bool.and_false]; rfl
      simp only
      rw [show (rowSp Ys).ng = rowNg Ys from rfl, e2]
      simp only [List.length_append, List.length_cons, List.length_nil]
      rw [if_neg (by decide), hst2, go_bump, go_go]
      show (_, st.go _ _) = (_, st.go (rowTxt Xs ++ (124 :: rowTxt Ys)).length _)
      rw [List.length_append, List.length_cons]
      show (_, st.go ((rowTxt Xs).length + 1 + (rowTxt Ys).length) _) = _
      rw [show (rowTxt Xs).length + 1 + (rowTxt Ys).length = (rowTxt Xs).length + ((rowTxt Ys).length + 1) by omega]
      rfl
    · have h6 : (rowP s (altL s n) (st2.bump 1)).2.ok = false := hr2.2 (by show 9 < st.caps + rowNg Xs + rowNg Ys; omega)
      have e2 : ∀ (k : Nat) (rows : List (List ReN)), altLoop s (altL s n) k (rowP s (altL s n) (st2.bump 1)).2 rows = (rows, (rowP s (altL s n) (st2.bump 1)).2) := by
        intro k rows
        cases k with
        | zero => rfl
        | succ k => unfold altLoop; rw [h6]; rfl
      rw [e2]; exact h6
  · refine ⟨fun hg => by omega, fun _ => altP_bad (hr.2 (by show 9 < st.caps + rowNg Xs; omega))⟩
end Go.Proofs.Ytfblkahjefdmaaa.RX
