/- Plain law: texts that are made of elements: how the reader reads each of them. No program in sight. -/
import Derived.Test.YtfblkahjefdmaaaPureA
import Derived.KernelRfl
namespace Go.Proofs.Ytfblkahjefdmaaa.RX

/-- A text, its groups, its nodes (of the groups so far). -/
structure Sp where
  txt : List Int
  ng : Nat
  nodes : Nat → List ReN

/-- What follows begins no repeat. -/
def Follow (rest : List Int) : Prop := ∀ c, rest.head? = some c → c ≠ 42 ∧ c ≠ 43 ∧ c ≠ 63 ∧ c ≠ 123
def St.go (st : St) (n g : Nat) : St := { st with at_ := st.at_ + n, caps := st.caps + g }

theorem nxt_drop (s : List Int) (st : St) (k : Nat) : nxt s st k = ((s.drop st.at_)[k]?).getD (-1) := by
  unfold nxt; rw [List.getElem?_drop]
theorem nxt_bump (s : List Int) (st : St) (m k : Nat) : nxt s (st.bump m) k = nxt s st (m + k) := by
  unfold nxt St.bump; simp only [Nat.add_assoc]
theorem nxt_txt {s x rest : List Int} {st : St} (h : s.drop st.at_ = x ++ rest) {k : Nat} (hk : k < x.length) : nxt s st k = x[k] := by
  rw [nxt_drop, h, List.getElem?_append_left hk, List.getElem?_eq_getElem hk]; rfl
theorem nxt_rest {s x rest : List Int} {st : St} (h : s.drop st.at_ = x ++ rest) : nxt s st x.length = (rest.head?).getD (-1) := by
  rw [nxt_drop, h, List.getElem?_append_right (Nat.le_refl _), Nat.sub_self]
  cases rest <;> rfl
theorem follow_ne {rest : List Int} (h : Follow rest) : (rest.head?).getD (-1) ≠ 42 ∧ (rest.head?).getD (-1) ≠ 43 ∧ (rest.head?).getD (-1) ≠ 63 ∧ (rest.head?).getD (-1) ≠ 123 := by
  cases rest with
  | nil => decide
  | cons c r => exact h c rfl
theorem repeat_none {s rest : List Int} {st : St} {atom : List ReN} (h : s.drop st.at_ = rest) (hf : Follow rest) : repeatP s atom st = (atom, st) := by
  have h0 : nxt s st 0 = (rest.head?).getD (-1) := nxt_rest (x := []) h
  have h1 := follow_ne hf
  unfold repeatP repTop
  simp only [h0, if_neg h1.1, if_neg h1.2.1, if_neg h1.2.2.1, if_neg h1.2.2.2]

theorem ok_bump (st : St) (n : Nat) : (st.bump n).ok = st.ok := rfl
theorem bump_bump (st : St) (a b : Nat) : (st.bump a).bump b = st.bump (a + b) := by unfold St.bump; simp only [Nat.add_assoc]
/-- The repeats that are made. -/
structure Rp where
  txt : List Int
  lo : Int
  hi : Int
  lazy : Bool
def RepOk (r : Rp) : Prop := ∀ (s rest : List Int) (st : St) (atom : List ReN), st.ok = true → s.drop st.at_ = r.txt ++ rest → Follow rest → repeatP s atom st = (under (node 6 r.lo r.hi r.lazy false []) [atom], st.bump r.txt.length)

theorem rep_star : RepOk ⟨[42], 0, -1, false⟩ := by
  intro s rest st atom hok h hf
  have h0 := nxt_txt (k := 0) h (by decide)
  have h1 := nxt_rest h
  have h2 := (follow_ne hf).2.2.1
  simp only [List.length_cons, List.length_nil, Nat.zero_add] at h1
  simp at h0
  unfold repeatP repTop
  simp [h0, nxt_bump, h1, h2]
theorem rep_plus : RepOk ⟨[43], 1, -1, false⟩ := by
  intro s rest st atom hok h hf
  have h0 := nxt_txt (k := 0) h (by decide)
  have h1 := nxt_rest h
  have h2 := (follow_ne hf).2.2.1
  simp only [List.length_cons, List.length_nil, Nat.zero_add] at h1
  simp at h0
  unfold repeatP repTop
  simp [h0, nxt_bump, h1, h2]
theorem rep_quest : RepOk ⟨[63], 0, 1, false⟩ := by
  intro s rest st atom hok h hf
  have h0 := nxt_txt (k := 0) h (by decide)
  have h1 := nxt_rest h
  have h2 := (follow_ne hf).2.2.1
  simp only [List.length_cons, List.length_nil, Nat.zero_add] at h1
  simp at h0
  unfold repeatP repTop
  simp [h0, nxt_bump, h1, h2]
theorem rep_lazy : RepOk ⟨[42, 63], 0, -1, true⟩ := by
  intro s rest st atom hok h _
  have h0 := nxt_txt (k := 0) h (by decide)
  have h1 := nxt_txt (k := 1) h (by decide)
  simp at h0 h1
  have hb : (st.bump 1).ok = true := hok
  unfold repeatP repTop
  simp [h0, nxt_bump, h1, hb]
  rfl
theorem rep_12 : RepOk ⟨[123, 49, 44, 50, 125], 1, 2, false⟩ := by
  intro s rest st atom hok h hf
  have h0 : nxt s st 0 = 123 := nxt_txt (k := 0) h (by decide)
  have h1 : nxt s st 1 = 49 := nxt_txt (k := 1) h (by decide)
  have h2 : nxt s st 2 = 44 := nxt_txt (k := 2) h (by decide)
  have h3 : nxt s st 3 = 50 := nxt_txt (k := 3) h (by decide)
  have h4 : nxt s st 4 = 125 := nxt_txt (k := 4) h (by decide)
  have hr : nxt s st 5 = _ := nxt_rest h
  have hq := (follow_ne hf).2.2.1
  unfold repeatP repTop bounds high must digit
  simp [nxt_bump, bump_bump, ok_bump, hok, hr, hq, h0, h1, h2, h3, h4]
theorem rep_2 : RepOk ⟨[123, 50, 125], 2, 2, false⟩ := by
  intro s rest st atom hok h hf
  have h0 : nxt s st 0 = 123 := nxt_txt (k := 0) h (by decide)
  have h1 : nxt s st 1 = 50 := nxt_txt (k := 1) h (by decide)
  have h2 : nxt s st 2 = 125 := nxt_txt (k := 2) h (by decide)
  have hr : nxt s st 3 = _ := nxt_rest h
  have hq := (follow_ne hf).2.2.1
  unfold repeatP repTop bounds high must digit
  simp [nxt_bump, bump_bump, ok_bump, hok, hr, hq, h0, h1, h2]
theorem rep_0 : RepOk ⟨[123, 48, 44, 125, 63], 0, -1, true⟩ := by
  intro s rest st atom hok h _
  have h0 : nxt s st 0 = 123 := nxt_txt (k := 0) h (by decide)
  have h1 : nxt s st 1 = 48 := nxt_txt (k := 1) h (by decide)
  have h2 : nxt s st 2 = 44 := nxt_txt (k := 2) h (by decide)
  have h3 : nxt s st 3 = 125 := nxt_txt (k := 3) h (by decide)
  have h4 : nxt s st 4 = 63 := nxt_txt (k := 4) h (by decide)
  unfold repeatP repTop bounds high must digit
  simp [nxt_bump, bump_bump, ok_bump, hok, h0, h1, h2, h3, h4]
end Go.Proofs.Ytfblkahjefdmaaa.RX

/- Plain law: the sets that are made: how the reader reads each of them. No program in sight. -/
namespace Go.Proofs.Ytfblkahjefdmaaa.RX

def SetOk (txt : List Int) (ng : Bool) (set : List Int) : Prop :=
  ∀ (s rest : List Int) (alt : St → List ReN × St) (st : St), st.ok = true → s.drop st.at_ = txt ++ rest → atomP s alt st = ([node 2 0 0 false ng set], st.bump txt.length)

theorem drop_len {s x rest : List Int} {n : Nat} (h : s.drop n = x ++ rest) (h0 : 0 < x.length) : n + x.length ≤ s.length := by
  have := congrArg List.length h
  rw [List.length_drop, List.length_append] at this
  omega
theorem set_sign {c : Int} (h : c ≠ 42 ∧ c ≠ 43 ∧ c ≠ 63 ∧ c ≠ 123 ∧ c ≠ 40 ∧ c ≠ 91 ∧ c ≠ 92 ∧ c ≠ 46) : SetOk [c] false [c, c] := by
  intro s rest alt st _ hd
  have h0 : nxt s st 0 = c := nxt_txt (k := 0) hd (by simp)
  obtain ⟨h1, h2, h3, h4, h5, h6, h7, h8⟩ := h
  unfold atomP
  simp [h0, h1, h2, h3, h4, h5, h6, h7, h8]
theorem set_dot : SetOk [46] true [10, 10] := by
  intro s rest alt st _ hd
  have h0 : nxt s st 0 = 46 := nxt_txt (k := 0) hd (by simp)
  unfold atomP
  simp [h0]
theorem set_w : SetOk [92, 119] false [97, 122, 65, 90, 48, 57, 95, 95] := by
  intro s rest alt st _ hd
  have h0 : nxt s st 0 = 92 := nxt_txt (k := 0) hd (by simp)
  have h1 : nxt s st 1 = 119 := nxt_txt (k := 1) hd (by simp)
  unfold atomP escaped
  simp [h0, h1, nxt_bump, bump_bump, sortR]
theorem set_d : SetOk [92, 100] false [48, 57] := by
  intro s rest alt st _ hd
  have h0 : nxt s st 0 = 92 := nxt_txt (k := 0) hd (by simp)
  have h1 : nxt s st 1 = 100 := nxt_txt (k := 1) hd (by simp)
  unfold atomP escaped
  simp [h0, h1, nxt_bump, bump_bump, sortR]
theorem set_s : SetOk [92, 115] false [32, 32, 9, 9, 10, 10] := by
  intro s rest alt st _ hd
  have h0 : nxt s st 0 = 92 := nxt_txt (k := 0) hd (by simp)
  have h1 : nxt s st 1 = 115 := nxt_txt (k := 1) hd (by simp)
  unfold atomP escaped
  simp [h0, h1, nxt_bump, bump_bump, sortR]
theorem set_esc : SetOk [92, 46] false [46, 46] := by
  intro s rest alt st _ hd
  have h0 : nxt s st 0 = 92 := nxt_txt (k := 0) hd (by simp)
  have h1 : nxt s st 1 = 46 := nxt_txt (k := 1) hd (by simp)
  unfold atomP escaped
  simp [h0, h1, nxt_bump, bump_bump, sortR, lower, signR, within, classOf, isSign]
theorem set_W : SetOk [92, 87] true [97, 122, 65, 90, 48, 57, 95, 95] := by
  intro s rest alt st _ hd
  have h0 : nxt s st 0 = 92 := nxt_txt (k := 0) hd (by simp)
  have h1 : nxt s st 1 = 87 := nxt_txt (k := 1) hd (by simp)
  unfold atomP escaped
  simp [h0, h1, nxt_bump, bump_bump, sortR, lower, within]
theorem set_abc : SetOk [91, 97, 98, 99, 93] false [97, 97, 98, 98, 99, 99] := by
  intro s rest alt st hok hd
  have h0 : nxt s st 0 = 91 := nxt_txt (k := 0) hd (by simp)
  have h1 : nxt s st 1 = 97 := nxt_txt (k := 1) hd (by simp)
  have h2 : nxt s st 2 = 98 := nxt_txt (k := 2) hd (by simp)
  have h3 : nxt s st 3 = 99 := nxt_txt (k := 3) hd (by simp)
  have h4 : nxt s st 4 = 93 := nxt_txt (k := 4) hd (by simp)
  have hl := drop_len hd (by simp)
  simp only [List.length_cons, List.length_nil] at hl
  obtain ⟨k, hk⟩ : ∃ k, s.length + 2 - (st.at_ + 1) = k + 4 := ⟨s.length + 2 - (st.at_ + 1) - 4, by omega⟩
  have e : (st.bump 1).at_ = st.at_ + 1 := rfl
  unfold atomP classP
  simp [h0, h1, h2, h3, h4, nxt_bump, bump_bump, ok_bump, hok, e, hk, classLoop, classRound, member, ranged]
theorem set_nab : SetOk [91, 94, 97, 45, 98, 93] true [97, 98] := by
  intro s rest alt st hok hd
  have h0 : nxt s st 0 = 91 := nxt_txt (k := 0) hd (by simp)
  have h1 : nxt s st 1 = 94 := nxt_txt (k := 1) hd (by simp)
  have h2 : nxt s st 2 = 97 := nxt_txt (k := 2) hd (by simp)
  have h3 : nxt s st 3 = 45 := nxt_txt (k := 3) hd (by simp)
  have h4 : nxt s st 4 = 98 := nxt_txt (k := 4) hd (by simp)
  have h5 : nxt s st 5 = 93 := nxt_txt (k := 5) hd (by simp)
  have hl := drop_len hd (by simp)
  simp only [List.length_cons, List.length_nil] at hl
  obtain ⟨k, hk⟩ : ∃ k, s.length + 2 - (st.at_ + 2) = k + 2 := ⟨s.length + 2 - (st.at_ + 2) - 2, by omega⟩
  have e : (st.bump 2).at_ = st.at_ + 2 := rfl
  unfold atomP classP
  simp [h0, h1, h2, h3, h4, h5, nxt_bump, bump_bump, ok_bump, hok, e, hk, classLoop, classRound, member, ranged, sortR]
theorem set_wd : SetOk [91, 92, 119, 45, 93] false [97, 122, 65, 90, 48, 57, 95, 95, 45, 45] := by
  intro s rest alt st hok hd
  have h0 : nxt s st 0 = 91 := nxt_txt (k := 0) hd (by simp)
  have h1 : nxt s st 1 = 92 := nxt_txt (k := 1) hd (by simp)
  have h2 : nxt s st 2 = 119 := nxt_txt (k := 2) hd (by simp)
  have h3 : nxt s st 3 = 45 := nxt_txt (k := 3) hd (by simp)
  have h4 : nxt s st 4 = 93 := nxt_txt (k := 4) hd (by simp)
  have hl := drop_len hd (by simp)
  simp only [List.length_cons, List.length_nil] at hl
  obtain ⟨k, hk⟩ : ∃ k, s.length + 2 - (st.at_ + 1) = k + 3 := ⟨s.length + 2 - (st.at_ + 1) - 3, by omega⟩
  have e : (st.bump 1).at_ = st.at_ + 1 := rfl
  unfold atomP classP
  simp [h0, h1, h2, h3, h4, nxt_bump, bump_bump, ok_bump, hok, e, hk, classLoop, classRound, member, ranged, sortR, signR, within, classOf, isSign]
theorem set_ad : SetOk [91, 97, 45, 93] false [97, 97, 45, 45] := by
  intro s rest alt st hok hd
  have h0 : nxt s st 0 = 91 := nxt_txt (k := 0) hd (by simp)
  have h1 : nxt s st 1 = 97 := nxt_txt (k := 1) hd (by simp)
  have h2 : nxt s st 2 = 45 := nxt_txt (k := 2) hd (by simp)
  have h3 : nxt s st 3 = 93 := nxt_txt (k := 3) hd (by simp)
  have hl := drop_len hd (by simp)
  simp only [List.length_cons, List.length_nil] at hl
  obtain ⟨k, hk⟩ : ∃ k, s.length + 2 - (st.at_ + 1) = k + 3 := ⟨s.length + 2 - (st.at_ + 1) - 3, by omega⟩
  have e : (st.bump 1).at_ = st.at_ + 1 := rfl
  unfold atomP classP
  simp [h0, h1, h2, h3, nxt_bump, bump_bump, ok_bump, hok, e, hk, classLoop, classRound, member, ranged, sortR]
end Go.Proofs.Ytfblkahjefdmaaa.RX

/- Plain law: texts that are made of elements: items, rows, alternatives, groups. No program in sight. -/
namespace Go.Proofs.Ytfblkahjefdmaaa.RX

/-- What a level's groups hold. -/
def altL (s : List Int) : Nat → St → List ReN × St
  | 0 => fun st => ([], st)
  | n + 1 => altN s n
theorem altN_eq (s : List Int) (n : Nat) : altN s n = altP s (altL s n) := by cases n <;> rfl

/-- A text that is read, by a part of the reader: whole, or refused where there are too many groups. -/
def Reads (f : List Int → St → List ReN × St) (n : Nat) (Stop : List Int → Prop) (X : Sp) : Prop :=
  ∀ (s rest : List Int) (st : St), st.ok = true → st.op + n ≤ 12 → st.caps ≤ 9 → st.at_ ≤ s.length → s.drop st.at_ = X.txt ++ rest → Stop rest →
    (st.caps + X.ng ≤ 9 → f s st = (X.nodes st.caps, st.go X.txt.length X.ng)) ∧ (9 < st.caps + X.ng → (f s st).2.ok = false)
/-- How an element begins. -/
def Begins (x : List Int) : Prop := ∃ c r, x = c :: r ∧ c ≠ 42 ∧ c ≠ 43 ∧ c ≠ 63 ∧ c ≠ 123 ∧ c ≠ -1 ∧ c ≠ 124 ∧ c ≠ 41
theorem Begins.follow {x : List Int} (h : Begins x) (y : List Int) : Follow (x ++ y) := by
  obtain ⟨c, r, rfl, h1, h2, h3, h4, _⟩ := h
  intro d hd
  simp at hd; subst hd
  exact ⟨h1, h2, h3, h4⟩
theorem Begins.pos {x : List Int} (h : Begins x) : 0 < x.length := by obtain ⟨c, r, rfl, _⟩ := h; simp
theorem nxt_head {s x : List Int} {st : St} (h : s.drop st.at_ = x) : nxt s st 0 = (x.head?).getD (-1) := nxt_rest (x := []) h
theorem go_drop {s x rest : List Int} {st : St} (h : s.drop st.at_ = x ++ rest) (g : Nat) : s.drop (st.go x.length g).at_ = rest := by
  show s.drop (st.at_ + x.length) = rest
  rw [← List.drop_drop, h, List.drop_left]
theorem go_le {s x rest : List Int} {st : St} {g : Nat} (hl : st.at_ ≤ s.length) (h : s.drop st.at_ = x ++ rest) : (st.go x.length g).at_ ≤ s.length := by
  have := congrArg List.length h
  rw [List.length_drop, List.length_append] at this
  show st.at_ + x.length ≤ _; omega
theorem go_go (st : St) (a b c d : Nat) : (st.go a b).go c d = st.go (a + c) (b + d) := by unfold St.go; simp only [Nat.add_assoc]
theorem go_bump (st : St) (a b c : Nat) : (st.go a b).bump c = st.go (a + c) b := by unfold St.go St.bump; simp only [Nat.add_assoc]
theorem bump_go (st : St) (a : Nat) : st.bump a = st.go a 0 := rfl
theorem go_ok (st : St) (a b : Nat) : (st.go a b).ok = st.ok := rfl

abbrev Item (n : Nat) (X : Sp) : Prop := Begins X.txt ∧ Reads (fun s => itemP s (altL s n)) n Follow X
abbrev Atom (n : Nat) (X : Sp) : Prop := (Begins X.txt ∧ X.txt.head? ≠ some 94 ∧ X.txt.head? ≠ some 36) ∧ Reads (fun s => atomP s (altL s n)) n (fun _ => True) X

theorem atom_set {n : Nat} {txt set : List Int} {ng : Bool} (hb : Begins txt) (h1 : txt.head? ≠ some 94) (h2 : txt.head? ≠ some 36) (h : SetOk txt ng set) : Atom n ⟨txt, 0, fun _ => [node 2 0 0 false ng set]⟩ :=
  ⟨⟨hb, h1, h2⟩, fun s rest st hok _ _ _ hd _ => ⟨fun _ => h s rest (altL s n) st hok hd, fun h9 => by simp at h9; omega⟩⟩

/-- An element without a repeat. -/
theorem item_bare {n : Nat} {X : Sp} (h : Atom n X) : Item n X := by
  refine ⟨h.1.1, fun s rest st hok hop h9 hl hd hf => ?_⟩
  have h0 := nxt_head hd
  obtain ⟨⟨⟨c, r, hx, _⟩, h1, h2⟩, hr⟩ := h
  rw [hx] at h0 h1 h2
  simp at h0 h1 h2
  have h3 := hr s rest st hok hop h9 hl hd trivial
  have e : itemP s (altL s n) st = if (atomP s (altL s n) st).2.ok then repeatP s (atomP s (altL s n) st).1 (atomP s (altL s n) st).2 else ([], (atomP s (altL s n) st).2) := by
    unfold itemP; simp only [h0, if_neg h1, if_neg h2]
  show (_ → itemP s (altL s n) st = _) ∧ (_ → (itemP s (altL s n) st).2.ok = false)
  rw [e]
  refine ⟨fun hg => ?_, fun hg => ?_⟩
  · have h4 : atomP s (altL s n) st = _ := h3.1 hg
    rw [h4]
    simp only [go_ok, hok, if_true]
    exact repeat_none (go_drop hd _) hf
  · have h4 : (atomP s (altL s n) st).2.ok = false := h3.2 hg
    rw [h4]; exact h4
def withRep (X : Sp) (r : Rp) : Sp := ⟨X.txt ++ r.txt, X.ng, fun c => under (node 6 r.lo r.hi r.lazy false []) [X.nodes c]⟩
theorem item_rep {n : Nat} {X : Sp} {r : Rp} (h : Atom n X) (hrp : RepOk r) : Item n (withRep X r) := by
  refine ⟨?_, fun s rest st hok hop h9 hl hd hf => ?_⟩
  · obtain ⟨⟨⟨c, t, hx, hc⟩, _, _⟩, _⟩ := h
    exact ⟨c, t ++ r.txt, by show X.txt ++ r.txt = _; rw [hx]; rfl, hc⟩
  have hd2 : s.drop st.at_ = X.txt ++ (r.txt ++ rest) := by rw [← List.append_assoc]; exact hd
  have h0 := nxt_head hd2
  obtain ⟨⟨⟨c, t, hx, _⟩, h1, h2⟩, hr⟩ := h
  rw [hx] at h0 h1 h2
  simp at h0 h1 h2
  have h3 := hr s (r.txt ++ rest) st hok hop h9 hl hd2 trivial
  have e : itemP s (altL s n) st = if (atomP s (altL s n) st).2.ok then repeatP s (atomP s (altL s n) st).1 (atomP s (altL s n) st).2 else ([], (atomP s (altL s n) st).2) := by
    unfold itemP; simp only [h0, if_neg h1, if_neg h2]
  show (_ → itemP s (altL s n) st = _) ∧ (_ → (itemP s (altL s n) st).2.ok = false)
  rw [e]
  refine ⟨fun hg => ?_, fun hg => ?_⟩
  · have h4 : atomP s (altL s n) st = _ := h3.1 hg
    rw [h4]
    simp only [go_ok, hok, if_true]
    rw [hrp s rest _ _ (show (st.go X.txt.length X.ng).ok = true from hok) (go_drop hd2 _) hf, go_bump]
    show (_, st.go (X.txt.length + r.txt.length) X.ng) = (_, st.go (X.txt ++ r.txt).length X.ng)
    rw [List.length_append]; rfl
  · have h4 : (atomP s (altL s n) st).2.ok = false := h3.2 hg
    rw [h4]; exact h4
theorem item_edge {n : Nat} {c k : Int} (h : c = 94 ∧ k = 3 ∨ c = 36 ∧ k = 4) : Item n ⟨[c], 0, fun _ => [node k 0 0 false false []]⟩ := by
  refine ⟨⟨c, [], rfl, by omega⟩, fun s rest st hok _ _ _ hd _ => ⟨fun _ => ?_, fun h9 => by simp at h9; omega⟩⟩
  have h0 := nxt_head hd
  simp at h0
  show itemP s (altL s n) st = _
  unfold itemP
  rcases h with ⟨rfl, rfl⟩ | ⟨rfl, rfl⟩
  · simp [h0]; rfl
  · simp [h0]; rfl

/-- Rows of items. -/
def rowTxt (Xs : List Sp) : List Int := (Xs.map Sp.txt).flatten
def rowNg (Xs : List Sp) : Nat := (Xs.map Sp.ng).sum
def rowNodes : Nat → List Sp → List (List ReN)
  | _, [] => []
  | c, X :: r => X.nodes c :: rowNodes (c + X.ng) r
def rowSp (Xs : List Sp) : Sp := ⟨rowTxt Xs, rowNg Xs, fun c => under (node 0 0 0 false false []) (rowNodes c Xs)⟩
def RowStop (rest : List Int) : Prop := rowEnds ((rest.head?).getD (-1)) = true
theorem RowStop.follow {rest : List Int} (h : RowStop rest) : Follow rest := by
  intro c hc
  unfold RowStop at h
  rw [hc] at h
  simp [rowEnds] at h
  omega
theorem follow_row {Xs : List Sp} {rest : List Int} {n : Nat} (h : ∀ X ∈ Xs, Item n X) (hr : RowStop rest) : Follow (rowTxt Xs ++ rest) := by
  cases Xs with
  | nil => exact hr.follow
  | cons X r =>
    have := (h X (by simp)).1.follow (rowTxt r ++ rest)
    unfold rowTxt
    rw [List.map_cons, List.flatten_cons, List.append_assoc]; exact this
theorem rowLoop_read {n : Nat} : ∀ (Xs : List Sp) (s rest : List Int) (st : St) (items : List (List ReN)) (k : Nat), (∀ X ∈ Xs, Item n X) → st.ok = true → st.op + n ≤ 12 → st.caps ≤ 9 → st.at_ ≤ s.length → s.drop st.at_ = rowTxt Xs ++ rest → RowStop rest → Xs.length + 1 ≤ k →
    (st.caps + rowNg Xs ≤ 9 → rowLoop s (altL s n) k st items = (under (node 0 0 0 false false []) (items ++ rowNodes st.caps Xs), st.go (rowTxt Xs).length (rowNg Xs))) ∧ (9 < st.caps + rowNg Xs → (rowLoop s (altL s n) k st items).2.ok = false)
  | [], s, rest, st, items, k, _, hok, _, h9, _, hd, hst, hk => by
    obtain ⟨k, rfl⟩ : ∃ j, k = j + 1 := ⟨k - 1, by simp at hk; omega⟩
    have h0 := nxt_head (x := rest) hd
    refine ⟨fun _ => ?_, fun h => by simp [rowNg] at h; omega⟩
    unfold rowLoop
    rw [hok, h0, hst]
    simp [rowNodes, rowTxt, rowNg, St.go]
  | X :: Xs, s, rest, st, items, k, hi, hok, hop, h9, hl, hd, hst, hk => by
    obtain ⟨k, rfl⟩ : ∃ j, k = j + 1 := ⟨k - 1, by simp at hk; omega⟩
    have hX := hi X (by simp)
    have hd2 : s.drop st.at_ = X.txt ++ (rowTxt Xs ++ rest) := by
      rw [hd]; unfold rowTxt; rw [List.map_cons, List.flatten_cons, List.append_assoc]
    have h0 := nxt_head hd2
    obtain ⟨c, r, hx, hc⟩ := hX.1
    rw [hx] at h0
    simp at h0
    have he : rowEnds (nxt s st 0) = false := by rw [h0]; simp [rowEnds]; omega
    have hr := hX.2 s _ st hok hop h9 hl hd2 (follow_row (fun Y hY => hi Y (by simp [hY])) hst)
    have e : rowLoop s (altL s n) (k + 1) st items = rowLoop s (altL s n) k (itemP s (altL s n) st).2 (items ++ [(itemP s (altL s n) st).1]) := by
      rw [rowLoop, hok, he]; rfl
    rw [e]
    have hng : rowNg (X :: Xs) = X.ng + rowNg Xs := by unfold rowNg; rw [List.map_cons, List.sum_cons]
    have hlen : (rowTxt (X :: Xs)).length = X.txt.length + (rowTxt Xs).length := by unfold rowTxt; rw [List.map_cons, List.flatten_cons, List.length_append]
    by_cases hg : st.caps + X.ng ≤ 9
    · have h4 : itemP s (altL s n) st = _ := hr.1 hg
      rw [h4]
      have ih := rowLoop_read Xs s rest (st.go X.txt.length X.ng) (items ++ [X.nodes st.caps]) k (fun Y hY => hi Y (by simp [hY])) hok hop hg (go_le hl hd2) (go_drop hd2 _) hst (by simp at hk; omega)
      have ec : (st.go X.txt.length X.ng).caps = st.caps + X.ng := rfl
      rw [ec] at ih
      refine ⟨fun h => ?_, fun h => ih.2 (by omega)⟩
      rw [ih.1 (by omega), go_go, hng, hlen, List.append_assoc]; rfl
    · have h4 : (itemP s (altL s n) st).2.ok = false := hr.2 (by omega)
      refine ⟨fun h => by omega, fun _ => ?_⟩
      cases k with
      | zero => exact h4
      | succ k => unfold rowLoop; rw [h4]; exact h4
theorem row_len {n : Nat} : ∀ {Xs : List Sp}, (∀ X ∈ Xs, Item n X) → Xs.length ≤ (rowTxt Xs).length
  | [], _ => by simp [rowTxt]
  | X :: Xs, h => by
    have h1 := (h X (by simp)).1.pos
    have h2 := row_len (Xs := Xs) fun Y hY => h Y (by simp [hY])
    unfold rowTxt at h2 ⊢
    rw [List.map_cons, List.flatten_cons, List.length_append, List.length_cons]; omega
theorem row_read {n : Nat} {Xs : List Sp} (h : ∀ X ∈ Xs, Item n X) : Reads (fun s => rowP s (altL s n)) n RowStop (rowSp Xs) := by
  intro s rest st hok hop h9 hle hd hst
  have hl := row_len h
  have hfuel : Xs.length + 1 ≤ s.length + 2 - st.at_ := by
    have := congrArg List.length hd
    rw [List.length_drop, List.length_append] at this
    have h2 : (rowSp Xs).txt.length = (rowTxt Xs).length := rfl
    omega
  have := rowLoop_read Xs s rest st [] (s.length + 2 - st.at_) h hok hop h9 hle hd hst hfuel
  rw [List.nil_append] at this
  exact this

/-- One row, or two with | between, up to a ) or the end. -/
def AltStop (rest : List Int) : Prop := (rest.head?).getD (-1) = -1 ∨ (rest.head?).getD (-1) = 41
theorem AltStop.row {rest : List Int} (h : AltStop rest) : RowStop rest := by
  unfold RowStop; rcases h with h | h <;> rw [h] <;> rfl
theorem AltStop.ne {rest : List Int} (h : AltStop rest) : (rest.head?).getD (-1) ≠ 124 := by rcases h with h | h <;> rw [h] <;> decide
def alt2Sp (Xs Ys : List Sp) : Sp := ⟨rowTxt Xs ++ (124 :: rowTxt Ys), rowNg Xs + rowNg Ys, fun c => under (node 1 0 0 false false []) [(rowSp Xs).nodes c, (rowSp Ys).nodes (c + rowNg Xs)]⟩
theorem altP_bad {s : List Int} {alt : St → List ReN × St} {st : St} (h : (rowP s alt st).2.ok = false) : (altP s alt st).2.ok = false := by
  unfold altP
  have e : altLoop s alt (s.length + 2 - (rowP s alt st).2.at_) (rowP s alt st).2 [(rowP s alt st).1] = ([(rowP s alt st).1], (rowP s alt st).2) := by
    cases s.length + 2 - (rowP s alt st).2.at_ with
    | zero => rfl
    | succ k => unfold altLoop; rw [h]; rfl
  simp only [e]; exact h
theorem alt1_read {n : Nat} {Xs : List Sp} (h : ∀ X ∈ Xs, Item n X) : Reads (fun s => altP s (altL s n)) n AltStop (rowSp Xs) := by
  intro s rest st hok hop h9 hle hd hst
  have hr := row_read h s rest st hok hop h9 hle hd hst.row
  refine ⟨fun hg => ?_, fun hg => altP_bad (hr.2 hg)⟩
  have h4 : rowP s (altL s n) st = _ := hr.1 hg
  have h5 := nxt_head (go_drop hd (rowNg Xs))
  have e : ∀ k, altLoop s (altL s n) k (st.go (rowSp Xs).txt.length (rowNg Xs)) [(rowSp Xs).nodes st.caps] = ([(rowSp Xs).nodes st.caps], st.go (rowSp Xs).txt.length (rowNg Xs)) := by
    intro k
    cases k with
    | zero => rfl
    | succ k =>
      have : decide (nxt s (st.go (rowSp Xs).txt.length (rowNg Xs)) 0 = 124) = false := by rw [h5]; exact decide_eq_false hst.ne
      unfold altLoop; rw [this, Bool.and_false]; rfl
  show altP s (altL s n) st = _
  unfold altP
  rw [h4]
  simp only
  rw [show (rowSp Xs).ng = rowNg Xs from rfl, e]
  rfl
theorem alt2_read {n : Nat} {Xs Ys : List Sp} (h : ∀ X ∈ Xs, Item n X) (h' : ∀ X ∈ Ys, Item n X) : Reads (fun s => altP s (altL s n)) n AltStop (alt2Sp Xs Ys) := by
  intro s rest st hok hop h9 hle hd hst
  have hd1 : s.drop st.at_ = (rowSp Xs).txt ++ (124 :: (rowTxt Ys ++ rest)) := by rw [hd]; show (rowTxt Xs ++ (124 :: rowTxt Ys)) ++ rest = rowTxt Xs ++ _; rw [List.append_assoc]; rfl
  have hr := row_read h s _ st hok hop h9 hle hd1 (by unfold RowStop; rfl)
  have hng : (alt2Sp Xs Ys).ng = rowNg Xs + rowNg Ys := rfl
  rw [hng]
  by_cases hgx : st.caps + rowNg Xs ≤ 9
  · have h4 : rowP s (altL s n) st = _ := hr.1 hgx
    have hd2 := go_drop hd1 (rowNg Xs)
    have hl2 := go_le (g := rowNg Xs) hle hd1
    have h5 := nxt_head hd2
    simp at h5
    obtain ⟨st2, hst2⟩ : ∃ q, q = st.go (rowSp Xs).txt.length (rowNg Xs) := ⟨_, rfl⟩
    have hd3 : s.drop (st2.bump 1).at_ = (rowSp Ys).txt ++ rest := by
      rw [hst2]
      show s.drop ((st.go (rowSp Xs).txt.length (rowNg Xs)).at_ + 1) = _
      rw [← List.drop_drop, hd2]; rfl
    have hl3 : (st2.bump 1).at_ ≤ s.length := by
      have := congrArg List.length hd2
      rw [List.length_drop] at this
      simp at this
      rw [hst2]
      show (st.go (rowSp Xs).txt.length (rowNg Xs)).at_ + 1 ≤ _
      omega
    have hr2 := row_read h' s rest (st2.bump 1) (by rw [hst2]; exact hok) (by rw [hst2]; exact hop) (by rw [hst2]; exact hgx) hl3 hd3 hst.row
    have hc2 : (st2.bump 1).caps = st.caps + rowNg Xs := by rw [hst2]; rfl
    rw [hc2] at hr2
    obtain ⟨k, hk⟩ : ∃ k, s.length + 2 - st2.at_ = k + 1 := ⟨s.length + 1 - st2.at_, by have : st2.at_ + 1 ≤ s.length := hl3; omega⟩
    have hon : (st2.ok && decide (nxt s st2 0 = 124)) = true := by rw [hst2, go_ok, hok, h5]; rfl
    have e : altP s (altL s n) st = (if (altLoop s (altL s n) (s.length + 2 - st2.at_) st2 [(rowSp Xs).nodes st.caps]).1.length = 1 then (altLoop s (altL s n) (s.length + 2 - st2.at_) st2 [(rowSp Xs).nodes st.caps]).1.headD [] else under (node 1 0 0 false false []) (altLoop s (altL s n) (s.length + 2 - st2.at_) st2 [(rowSp Xs).nodes st.caps]).1, (altLoop s (altL s n) (s.length + 2 - st2.at_) st2 [(rowSp Xs).nodes st.caps]).2) := by
      unfold altP; rw [h4, hst2]; rfl
    show (_ → altP s (altL s n) st = _) ∧ (_ → (altP s (altL s n) st).2.ok = false)
    rw [e, hk]
    have e1 : altLoop s (altL s n) (k + 1) st2 [(rowSp Xs).nodes st.caps] = altLoop s (altL s n) k (rowP s (altL s n) (st2.bump 1)).2 ([(rowSp Xs).nodes st.caps] ++ [(rowP s (altL s n) (st2.bump 1)).1]) := by
      rw [altLoop, if_pos hon]
    rw [e1]
    refine ⟨fun hg => ?_, fun hg => ?_⟩
    · have h6 : rowP s (altL s n) (st2.bump 1) = _ := hr2.1 (by show st.caps + rowNg Xs + rowNg Ys ≤ 9; omega)
      rw [h6]
      have h7 := nxt_head (go_drop hd3 (rowNg Ys))
      have e2 : ∀ (k : Nat) (rows : List (List ReN)), altLoop s (altL s n) k ((st2.bump 1).go (rowSp Ys).txt.length (rowNg Ys)) rows = (rows, (st2.bump 1).go (rowSp Ys).txt.length (rowNg Ys)) := by
        intro k rows
        cases k with
        | zero => rfl
        | succ k =>
          have : decide (nxt s ((st2.bump 1).go (rowSp Ys).txt.length (rowNg Ys)) 0 = 124) = false := by rw [h7]; exact decide_eq_false hst.ne
          unfold altLoop; rw [this, Bool.and_false]; rfl
      simp only
      rw [show (rowSp Ys).ng = rowNg Ys from rfl, e2]
      simp only [List.length_append, List.length_cons, List.length_nil]
      rw [if_neg (by decide), hst2, go_bump, go_go]
      show (_, st.go _ _) = (_, st.go (rowTxt Xs ++ (124 :: rowTxt Ys)).length _)
      rw [List.length_append, List.length_cons]
      show (_, st.go ((rowTxt Xs).length + 1 + (rowTxt Ys).length) _) = _
      rw [show (rowTxt Xs).length + 1 + (rowTxt Ys).length = (rowTxt Xs).length + ((rowTxt Ys).length + 1) by omega]
      rfl
    · have h6 : (rowP s (altL s n) (st2.bump 1)).2.ok = false := hr2.2 (by show 9 < st.caps + rowNg Xs + rowNg Ys; omega)
      have e2 : ∀ (k : Nat) (rows : List (List ReN)), altLoop s (altL s n) k (rowP s (altL s n) (st2.bump 1)).2 rows = (rows, (rowP s (altL s n) (st2.bump 1)).2) := by
        intro k rows
        cases k with
        | zero => rfl
        | succ k => unfold altLoop; rw [h6]; rfl
      rw [e2]; exact h6
  · refine ⟨fun hg => by omega, fun _ => altP_bad (hr.2 (by show 9 < st.caps + rowNg Xs; omega))⟩
end Go.Proofs.Ytfblkahjefdmaaa.RX

/- Plain law: groups that are made; whole patterns. No program in sight. -/
namespace Go.Proofs.Ytfblkahjefdmaaa.RX

theorem groupIn_read {n : Nat} {A : Sp} (hA : Reads (fun s => altP s (altL s n)) n AltStop A) {s rest : List Int} {st : St} (g : Int) (hok : st.ok = true) (hop : st.op + 1 + n ≤ 12) (h9 : st.caps ≤ 9) (hl : st.at_ ≤ s.length) (hd : s.drop st.at_ = A.txt ++ (41 :: rest)) :
    (st.caps + A.ng ≤ 9 → groupIn s (altL s (n + 1)) g st = (under (node 5 g 0 false false []) [A.nodes st.caps], st.go (A.txt.length + 1) A.ng)) ∧ (9 < st.caps + A.ng → (groupIn s (altL s (n + 1)) g st).2.ok = false) := by
  have h := hA s (41 :: rest) { st with op := st.op + 1 } hok hop h9 hl hd (.inr rfl)
  have e : altL s (n + 1) { st with op := st.op + 1 } = altP s (altL s n) { st with op := st.op + 1 } := by show altN s n _ = _; rw [altN_eq]
  unfold groupIn
  simp only
  rw [e]
  refine ⟨fun hg => ?_, fun hg => ?_⟩
  · have h4 : altP s (altL s n) { st with op := st.op + 1 } = _ := h.1 hg
    rw [h4]
    have h5 : nxt s { ({ st with op := st.op + 1 } : St).go A.txt.length A.ng with op := (({ st with op := st.op + 1 } : St).go A.txt.length A.ng).op - 1 } 0 = 41 := by
      have := nxt_head (s := s) (st := st.go A.txt.length A.ng) (go_drop hd A.ng)
      simp at this
      exact this
    simp only
    rw [if_neg (by rw [h5]; simp)]
    rfl
  · have h4 : (altP s (altL s n) { st with op := st.op + 1 }).2.ok = false := h.2 hg
    generalize altP s (altL s n) { st with op := st.op + 1 } = r at h4 ⊢
    have h5 : ({ r.2 with op := r.2.op - 1 } : St).ok = false := h4
    generalize ({ r.2 with op := r.2.op - 1 } : St) = q at h5
    rw [if_neg (by rw [h5]; simp)]
    exact h5

def grpSp (cap : Bool) (A : Sp) : Sp := ⟨40 :: ((if cap then [] else [63, 58]) ++ A.txt ++ [41]), A.ng + (if cap then 1 else 0), fun c => under (node 5 (if cap then (c : Int) + 1 else 0) 0 false false []) [A.nodes (c + if cap then 1 else 0)]⟩
theorem atomP_grp {s : List Int} {alt : St → List ReN × St} {st : St} (h : nxt s st 0 = 40) : atomP s alt st = groupP s alt st := by unfold atomP; simp [h]
theorem grp_free {n : Nat} {A : Sp} (hA : Reads (fun s => altP s (altL s n)) n AltStop A) : Atom (n + 1) (grpSp false A) := by
  refine ⟨⟨⟨40, _, rfl, by decide⟩, by simp [grpSp], by simp [grpSp]⟩, fun s rest st hok hop h9 hl hd _ => ?_⟩
  have hd0 : s.drop st.at_ = [40, 63, 58] ++ (A.txt ++ (41 :: rest)) := by rw [hd]; simp [grpSp]
  have h0 : nxt s st 0 = 40 := nxt_txt (k := 0) hd0 (by simp)
  have h1 : nxt s st 1 = 63 := nxt_txt (k := 1) hd0 (by simp)
  have h2 : nxt s st 2 = 58 := nxt_txt (k := 2) hd0 (by simp)
  have hlen : (grpSp false A).txt.length = 3 + (A.txt.length + 1) := by simp [grpSp]; omega
  have hr := groupIn_read hA (st := st.bump 3) (rest := rest) 0 hok (by show st.op + 1 + n ≤ 12; omega) h9 (go_le (g := 0) hl hd0) (go_drop hd0 0)
  have e : groupP s (altL s (n + 1)) st = groupIn s (altL s (n + 1)) 0 (st.bump 3) := by
    unfold groupP; rw [if_neg (by omega), if_pos ⟨h1, h2⟩]
  show (_ → atomP s (altL s (n + 1)) st = _) ∧ (_ → (atomP s (altL s (n + 1)) st).2.ok = false)
  rw [atomP_grp h0, e]
  have ec : (st.bump 3).caps = st.caps := rfl
  rw [ec] at hr
  refine ⟨fun hg => ?_, fun hg => hr.2 (by simpa [grpSp] using hg)⟩
  rw [hr.1 (by simpa [grpSp] using hg), hlen, bump_go, go_go]
  simp [grpSp]
theorem grp_cap {n : Nat} {A : Sp} (hA : Reads (fun s => altP s (altL s n)) n AltStop A) (hf : Follow (A.txt ++ [41])) : Atom (n + 1) (grpSp true A) := by
  refine ⟨⟨⟨40, _, rfl, by decide⟩, by simp [grpSp], by simp [grpSp]⟩, fun s rest st hok hop h9 hl hd _ => ?_⟩
  have hd0 : s.drop st.at_ = [40] ++ (A.txt ++ (41 :: rest)) := by rw [hd]; simp [grpSp]
  have h0 : nxt s st 0 = 40 := nxt_txt (k := 0) hd0 (by simp)
  have h1 : nxt s st 1 ≠ 63 := by
    have h2 : nxt s st 1 = _ := nxt_rest hd0
    rw [h2]
    cases hx : A.txt with
    | nil => simp
    | cons c r =>
      rw [hx] at hf
      simpa using (hf c rfl).2.2.1
  have hlen : (grpSp true A).txt.length = 1 + (A.txt.length + 1) := by simp [grpSp]; omega
  show (_ → atomP s (altL s (n + 1)) st = _) ∧ (_ → (atomP s (altL s (n + 1)) st).2.ok = false)
  rw [atomP_grp h0]
  by_cases hc : 9 ≤ st.caps
  · have e : groupP s (altL s (n + 1)) st = ([], st.fail 3 st.at_) := by
      unfold groupP; rw [if_neg (by omega), if_neg (fun h => h1 h.1), if_neg h1, if_pos hc]
    rw [e]
    exact ⟨fun hg => by simp [grpSp] at hg; omega, fun _ => St.fail_ok _ (by decide)⟩
  · have e : groupP s (altL s (n + 1)) st = groupIn s (altL s (n + 1)) (st.caps + 1) { st.bump 1 with caps := st.caps + 1 } := by
      unfold groupP; rw [if_neg (by omega), if_neg (fun h => h1 h.1), if_neg h1, if_neg hc]
    have hr := groupIn_read hA (st := { st.bump 1 with caps := st.caps + 1 }) (rest := rest) (st.caps + 1) hok (by show st.op + 1 + n ≤ 12; omega) (by show st.caps + 1 ≤ 9; omega) (go_le (g := 0) hl hd0) (go_drop hd0 0)
    rw [e]
    have ec : ({ st.bump 1 with caps := st.caps + 1 } : St).caps = st.caps + 1 := rfl
    rw [ec] at hr
    refine ⟨fun hg => ?_, fun hg => hr.2 (by simp [grpSp] at hg; omega)⟩
    rw [hr.1 (by simp [grpSp] at hg; omega), hlen]
    simp [grpSp, St.go, St.bump]
    omega
end Go.Proofs.Ytfblkahjefdmaaa.RX

/- Plain law: how long the program of a tree is: what does not change it. No program in sight. -/
namespace Go.Proofs.Ytfblkahjefdmaaa.PG
open RX (ReN Top under lift)

theorem rowL_n : ∀ (ps qs : List Part) (out out' : Part), ps.map Part.n = qs.map Part.n → out.n = out'.n → (rowL out ps).n = (rowL out' qs).n
  | [], [], _, _, _, h => h
  | [], _ :: _, _, _, h, _ => by simp at h
  | _ :: _, [], _, _, h, _ => by simp at h
  | p :: ps, q :: qs, out, out', h, ho => by
    rw [List.map_cons, List.map_cons] at h
    injection h with h1 h2
    rw [rowL, rowL]
    by_cases hc : 301 ≤ out.n + p.n
    · rw [if_pos hc, if_pos (by omega)]
    · rw [if_neg hc, if_neg (by omega)]
      exact rowL_n ps qs _ _ h2 (by show out.n + p.n = out'.n + q.n; omega)
theorem row_n {ps qs : List Part} (h : ps.map Part.n = qs.map Part.n) : (row ps).n = (row qs).n := rowL_n ps qs _ _ h rfl
theorem split_n (far : Int) (lz : Bool) : (split far lz).n = 1 := by unfold split; split <;> rfl
theorem either_n : ∀ (ps qs : List Part), ps.map Part.n = qs.map Part.n → (either ps).n = (either qs).n
  | [], [], _ => rfl
  | [], _ :: _, h => by simp at h
  | _ :: _, [], h => by simp at h
  | [p], [q], h => by simpa [either] using h
  | [_], _ :: _ :: _, h => by simp at h
  | _ :: _ :: _, [_], h => by simp at h
  | p :: p' :: ps, q :: q' :: qs, h => by
    rw [List.map_cons, List.map_cons (l := q' :: qs)] at h
    injection h with h1 h2
    have ih := either_n (p' :: ps) (q' :: qs) h2
    rw [either, either]
    refine row_n ?_
    simp only [List.map_cons, List.map_nil, split_n, h1, ih]
theorem many_n {p q : Part} (h : p.n = q.n) (n : Nat) : (many p n).n = (many q n).n := by
  unfold many
  by_cases h0 : p.n = 0
  · rw [if_pos h0, if_pos (by omega)]
  · rw [if_neg h0, if_neg (by omega)]
    exact row_n (by rw [List.map_replicate, List.map_replicate, h])
theorem maybeL_n {p q : Part} (h : p.n = q.n) (lz lz' : Bool) : ∀ (n : Nat) (out out' : Part), out.n = out'.n → (maybeL p lz n out).n = (maybeL q lz' n out').n
  | 0, _, _, ho => ho
  | n + 1, out, out', ho => by
    rw [maybeL, maybeL]
    refine maybeL_n h lz lz' n _ _ (row_n ?_)
    simp only [List.map_cons, List.map_nil, split_n, h, ho]
theorem head_n {ps qs : List Part} (h : ps.map Part.n = qs.map Part.n) : (ps.headD ⟨[], 0⟩).n = (qs.headD ⟨[], 0⟩).n := by
  cases ps with
  | nil => cases qs with
    | nil => rfl
    | cons q qs => simp at h
  | cons p ps => cases qs with
    | nil => simp at h
    | cons q qs => simp at h ⊢; exact h.1
/-- The length of a node's program: by its kind, its bounds, and the lengths of what is in it. -/
theorem nodeP_n {x y : ReN} {ps qs : List Part} (h : ps.map Part.n = qs.map Part.n) (hk : x.kind = y.kind) (h5 : x.kind = 5 → (0 < x.lo ↔ 0 < y.lo)) (h6 : x.kind ≠ 5 → x.lo = y.lo ∧ x.hi = y.hi) : (nodeP x ps).n = (nodeP y qs).n := by
  have hh := head_n h
  unfold nodeP
  rw [hk] at h5 h6 ⊢
  split
  · exact row_n h
  split
  · exact either_n _ _ h
  split
  · rfl
  split
  · rfl
  split
  · rfl
  split
  · rename_i k5
    by_cases hl : 0 < x.lo
    · rw [if_pos hl, if_pos ((h5 k5).1 hl)]
      exact row_n (by simp only [List.map_cons, List.map_nil, hh]; first | done | rfl)
    · rw [if_neg hl, if_neg (fun h => hl ((h5 k5).2 h))]
      exact hh
  · rename_i k5
    obtain ⟨e1, e2⟩ := h6 k5
    rw [e1, e2]
    split
    · refine row_n ?_
      simp only [List.map_cons, List.map_nil, many_n hh]
      congr 2
      exact row_n (by simp only [List.map_cons, List.map_nil, split_n, hh])
    · refine row_n ?_
      simp only [List.map_cons, List.map_nil, many_n hh]
      congr 2
      unfold maybe
      rw [hh]
      exact maybeL_n hh _ _ _ _ _ rfl
theorem either_fine : ∀ (ps : List Part), (∀ p ∈ ps, Fine p) → Fine (either ps)
  | [], _ => .inl ⟨by decide, rfl⟩
  | [p], h => h p (by simp)
  | p :: q :: ps, h => by
    have h1 := either_fine (q :: ps) (fun x hx => h x (by simp at hx ⊢; right; exact hx))
    rw [either]
    refine row_fine (fun x hx => ?_)
    simp at hx
    rcases hx with rfl | rfl | rfl | rfl
    · exact split_fine _ _
    · exact h _ (by simp)
    · exact jump_fine _
    · exact h1
theorem many_fine {p : Part} (h : Fine p) (n : Nat) : Fine (many p n) := by
  unfold many
  split
  · exact .inl ⟨by decide, rfl⟩
  · exact row_fine (fun q hq => by rw [List.eq_of_mem_replicate hq]; exact h)
theorem maybeL_fine {p : Part} (h : Fine p) (lz : Bool) : ∀ (n : Nat) (out : Part), Fine out → Fine (maybeL p lz n out)
  | 0, _, ho => ho
  | n + 1, out, ho => by
    rw [maybeL]
    refine maybeL_fine h lz n _ (row_fine (fun x hx => ?_))
    simp at hx
    rcases hx with rfl | rfl | rfl
    · exact split_fine _ _
    · exact h
    · exact ho
theorem loop_fine {p : Part} (h : Fine p) (lz : Bool) : Fine (loop p lz) := by
  refine row_fine (fun x hx => ?_)
  simp at hx
  rcases hx with rfl | rfl | rfl
  · exact split_fine _ _
  · exact h
  · exact jump_fine _
theorem nodeP_fine {x : ReN} {ps : List Part} (h : ∀ p ∈ ps, Fine p) : Fine (nodeP x ps) := by
  have hh : Fine (ps.headD ⟨[], 0⟩) := by
    cases ps with
    | nil => exact .inl ⟨by decide, rfl⟩
    | cons p ps => exact h p (by simp)
  unfold nodeP
  split
  · exact row_fine h
  split
  · exact either_fine _ h
  split
  · exact one_fine (by simp)
  split
  · exact one_fine (by simp)
  split
  · exact one_fine (by simp)
  split
  · split
    · refine row_fine (fun y hy => ?_)
      simp only [List.mem_cons, List.not_mem_nil, or_false] at hy
      rcases hy with rfl | rfl | rfl
      · exact save_fine _
      · exact hh
      · exact save_fine _
    · exact hh
  · split
    · refine row_fine (fun y hy => ?_)
      simp only [List.mem_cons, List.not_mem_nil, or_false] at hy
      rcases hy with rfl | rfl
      · exact many_fine hh _
      · exact loop_fine hh _
    · refine row_fine (fun y hy => ?_)
      simp only [List.mem_cons, List.not_mem_nil, or_false] at hy
      rcases hy with rfl | rfl
      · exact many_fine hh _
      · exact maybeL_fine hh _ _ _ (.inl ⟨by decide, rfl⟩)
theorem tree_fine : ∀ (n : Nat) (l : List ReN), Fine (tree n l)
  | 0, _ => .inl ⟨(by decide : (0 : Nat) < 301), rfl⟩
  | _ + 1, [] => .inl ⟨(by decide : (0 : Nat) < 301), rfl⟩
  | n + 1, x :: r => nodeP_fine (fun p hp => by
    obtain ⟨k, -, rfl⟩ := List.mem_map.1 hp
    exact tree_fine n k)

/-- A tree's program has so many instructions. -/
def Size (l : List ReN) (m : Nat) : Prop := Top l ∧ ∀ (e : Int) (n : Nat), l.length ≤ n → (tree n (l.map (lift e))).n = m
/-- Trees of such sizes. -/
def Sizes (ls : List (List ReN)) (ms : List Nat) : Prop := (∀ l ∈ ls, Top l) ∧ ∀ (e : Int) (n : Nat), (∀ l ∈ ls, l.length ≤ n) → ls.map (fun l => (tree n (l.map (lift e))).n) = ms
theorem Sizes.nil_ : Sizes [] [] := ⟨by simp, fun _ _ _ => rfl⟩
theorem Sizes.cons {l : List ReN} {m : Nat} {ls : List (List ReN)} {ms : List Nat} (h : Size l m) (hs : Sizes ls ms) : Sizes (l :: ls) (m :: ms) :=
  ⟨fun q hq => by
    rcases List.mem_cons.1 hq with rfl | hq
    · exact h.1
    · exact hs.1 q hq, fun e n hn => by
    rw [List.map_cons, h.2 e n (hn l (by simp)), hs.2 e n (fun q hq => hn q (by simp [hq]))]⟩
theorem under_top {x : ReN} {ls : List (List ReN)} (hx : x.deep = 0) (ht : ∀ l ∈ ls, Top l) : Top (under x ls) := by
  refine ⟨x, _, rfl, hx, fun y hy => ?_⟩
  obtain ⟨z, hz, rfl⟩ := List.mem_map.1 hy
  obtain ⟨l, hl, hz⟩ := List.mem_flatten.1 hz
  obtain ⟨t, r, rfl, h0, hr⟩ := ht l hl
  show 1 ≤ z.deep + 1
  rcases List.mem_cons.1 hz with rfl | hz
  · omega
  · have := hr z hz; omega
/-- A node over trees: its length is told by what its own kind and bounds are. -/
theorem size_under {x : ReN} {ls : List (List ReN)} {ms : List Nat} (hx : x.deep = 0) (hs : Sizes ls ms) (m : Nat) (hm : ∀ (e : Int) (ps : List Part), ps.map Part.n = ms → (nodeP (lift e x) ps).n = m) : Size (under x ls) m := by
  refine ⟨under_top hx hs.1, fun e n hn => ?_⟩
  cases n with
  | zero => simp [under] at hn
  | succ n =>
    rw [tree_under hs.1]
    refine hm e _ ?_
    rw [List.map_map]
    exact hs.2 (e + 1) n (fun l hl => by have := under_len (x := x) hl; omega)
theorem size_leaf {x : ReN} (hx : x.deep = 0) (m : Nat) (hm : ∀ (e : Int), (nodeP (lift e x) []).n = m) : Size [x] m := by
  have h := size_under (x := x) (ls := []) hx Sizes.nil_ m (fun e ps hp => by
    have : ps = [] := by simpa using hp
    rw [this]; exact hm e)
  simpa [under] using h
/-- Parts of such lengths. -/
def rep (ms : List Nat) : List Part := ms.map fun k => ⟨[], k⟩
theorem rep_n (ms : List Nat) : (rep ms).map Part.n = ms := by unfold rep; rw [List.map_map]; exact List.map_id' ms
theorem size_like {x y : ReN} {ls : List (List ReN)} {ms : List Nat} (hx : x.deep = 0) (hs : Sizes ls ms) (hk : x.kind = y.kind) (h5 : x.kind = 5 → (0 < x.lo ↔ 0 < y.lo)) (h6 : x.kind ≠ 5 → x.lo = y.lo ∧ x.hi = y.hi) : Size (under x ls) (nodeP y (rep ms)).n :=
  size_under hx hs _ (fun e ps hp => nodeP_n (by rw [hp, rep_n]) hk h5 h6)
theorem Size.one {l : List ReN} {m : Nat} (h : Size l m) : Sizes [l] [m] := Sizes.cons h Sizes.nil_
end Go.Proofs.Ytfblkahjefdmaaa.PG

/- Plain law: the patterns that are made of a row of numbers are rows of elements. No program in sight. -/
namespace Go.Proofs.Ytfblkahjefdmaaa.RX
open TP (one l1 l2 l3 l4 l5 lr)

theorem one_mem (ts : List Int) (i : Nat) {l : List (List Int)} (h : 1 ≤ l.length) : (one ts i l).1 ∈ l := by
  have := TP.next_lt ts i h
  unfold one
  rw [List.getD_eq_getElem?_getD, List.getElem?_eq_getElem this]
  exact List.getElem_mem this

/-- As many nodes, and as many instructions, whatever the groups so far. -/
def Uni (X : Sp) : Prop := (∀ c c', (X.nodes c).length = (X.nodes c').length) ∧ ∃ m, ∀ c, PG.Size (X.nodes c) m
theorem uni_leaf {txt : List Int} {x : ReN} (hx : x.deep = 0) (h : x.kind = 2 ∨ x.kind = 3 ∨ x.kind = 4) : Uni ⟨txt, 0, fun _ => [x]⟩ :=
  ⟨fun _ _ => rfl, 1, fun _ => PG.size_leaf hx 1 (fun e => by
    have hk : (lift e x).kind = x.kind := rfl
    unfold PG.nodeP
    rw [hk]
    rcases h with h | h | h
    · rw [h]; rfl
    · rw [h]; rfl
    · rw [h]; rfl)⟩
/-- An atom on every level from k on. -/
def AtomF (k : Nat) (x : List Int) : Prop := ∃ A : Sp, A.txt = x ∧ Uni A ∧ ∀ n, k ≤ n → Atom n A
def RowF (k : Nat) (x : List Int) : Prop := ∃ Xs : List Sp, rowTxt Xs = x ∧ (∀ X ∈ Xs, Uni X) ∧ ∀ n, k ≤ n → ∀ X ∈ Xs, Item n X
theorem AtomF.set {k : Nat} {txt set : List Int} {ng : Bool} (h : SetOk txt ng set) (hb : Begins txt) (h1 : txt.head? ≠ some 94) (h2 : txt.head? ≠ some 36) : AtomF k txt := ⟨_, rfl, uni_leaf rfl (.inl rfl), fun _ _ => atom_set hb h1 h2 h⟩
theorem AtomF.sign {k : Nat} {c : Int} (h : c ≠ 42 ∧ c ≠ 43 ∧ c ≠ 63 ∧ c ≠ 123 ∧ c ≠ 40 ∧ c ≠ 91 ∧ c ≠ 92 ∧ c ≠ 46) (h2 : c ≠ -1 ∧ c ≠ 124 ∧ c ≠ 41 ∧ c ≠ 94 ∧ c ≠ 36) : AtomF k [c] :=
  AtomF.set (set_sign h) ⟨c, [], rfl, by omega⟩ (by simp; omega) (by simp; omega)
theorem RowF.nil_ {k : Nat} : RowF k [] := ⟨[], rfl, by simp, by simp⟩
theorem RowF.one {k : Nat} {x : List Int} (h : ∃ X : Sp, X.txt = x ∧ Uni X ∧ ∀ n, k ≤ n → Item n X) : RowF k x := by
  obtain ⟨X, rfl, hu, h⟩ := h
  exact ⟨[X], by simp [rowTxt], fun Y hY => by simp at hY; subst hY; exact hu, fun n hn Y hY => by simp at hY; subst hY; exact h n hn⟩
theorem RowF.append {k : Nat} {x y : List Int} (h : RowF k x) (h' : RowF k y) : RowF k (x ++ y) := by
  obtain ⟨Xs, rfl, hu, h⟩ := h
  obtain ⟨Ys, rfl, hu', h'⟩ := h'
  refine ⟨Xs ++ Ys, by simp [rowTxt], fun X hX => ?_, fun n hn X hX => ?_⟩
  · rcases List.mem_append.1 hX with hX | hX
    · exact hu X hX
    · exact hu' X hX
  rcases List.mem_append.1 hX with hX | hX
  · exact h n hn X hX
  · exact h' n hn X hX
theorem RowF.mono {k k' : Nat} {x : List Int} (h : RowF k x) (hk : k ≤ k') : RowF k' x := by
  obtain ⟨Xs, e, hu, h⟩ := h; exact ⟨Xs, e, hu, fun n hn => h n (Nat.le_trans hk hn)⟩

theorem l1_ok {k : Nat} : ∀ x ∈ l1, AtomF k x := by
  intro x hx
  simp only [l1, List.mem_cons, List.not_mem_nil, or_false] at hx
  rcases hx with rfl | rfl | rfl | rfl | rfl | rfl | rfl
  · exact AtomF.sign (by decide) (by decide)
  · exact AtomF.sign (by decide) (by decide)
  · exact AtomF.sign (by decide) (by decide)
  · exact AtomF.set set_dot ⟨46, [], rfl, by decide⟩ (by decide) (by decide)
  · exact AtomF.sign (by decide) (by decide)
  · exact AtomF.sign (by decide) (by decide)
  · exact AtomF.sign (by decide) (by decide)
theorem l2_ok {k : Nat} : ∀ x ∈ l2, AtomF k x := by
  intro x hx
  simp only [l2, List.mem_cons, List.not_mem_nil, or_false] at hx
  rcases hx with rfl | rfl | rfl | rfl | rfl | rfl | rfl | rfl | rfl
  · exact AtomF.set set_w ⟨92, _, rfl, by decide⟩ (by decide) (by decide)
  · exact AtomF.set set_d ⟨92, _, rfl, by decide⟩ (by decide) (by decide)
  · exact AtomF.set set_s ⟨92, _, rfl, by decide⟩ (by decide) (by decide)
  · exact AtomF.set set_abc ⟨91, _, rfl, by decide⟩ (by decide) (by decide)
  · exact AtomF.set set_nab ⟨91, _, rfl, by decide⟩ (by decide) (by decide)
  · exact AtomF.set set_wd ⟨91, _, rfl, by decide⟩ (by decide) (by decide)
  · exact AtomF.set set_esc ⟨92, _, rfl, by decide⟩ (by decide) (by decide)
  · exact AtomF.set set_W ⟨92, _, rfl, by decide⟩ (by decide) (by decide)
  · exact AtomF.set set_ad ⟨91, _, rfl, by decide⟩ (by decide) (by decide)
theorem rowNodes_len : ∀ {Xs : List Sp}, (∀ X ∈ Xs, Uni X) → ∀ c c', (rowNodes c Xs).flatten.length = (rowNodes c' Xs).flatten.length
  | [], _, _, _ => rfl
  | X :: Xs, h, c, c' => by
    rw [rowNodes, rowNodes, List.flatten_cons, List.flatten_cons, List.length_append, List.length_append, (h X (by simp)).1 c c', rowNodes_len (fun Y hY => h Y (by simp [hY])) (c + X.ng) (c' + X.ng)]
theorem rowNodes_sizes : ∀ {Xs : List Sp}, (∀ X ∈ Xs, Uni X) → ∃ ms, ∀ c, PG.Sizes (rowNodes c Xs) ms
  | [], _ => ⟨[], fun _ => PG.Sizes.nil_⟩
  | X :: Xs, h => by
    obtain ⟨-, m, h1⟩ := h X (by simp)
    obtain ⟨ms, h2⟩ := rowNodes_sizes (Xs := Xs) (fun Y hY => h Y (List.mem_cons_of_mem _ hY))
    exact ⟨m :: ms, fun c => PG.Sizes.cons (h1 c) (h2 _)⟩
theorem uni_row {Xs : List Sp} (h : ∀ X ∈ Xs, Uni X) : Uni (rowSp Xs) := by
  obtain ⟨ms, h2⟩ := rowNodes_sizes h
  refine ⟨fun c c' => ?_, _, fun c => PG.size_like (y := node 0 0 0 false false []) rfl (h2 c) rfl (fun _ => Iff.rfl) (fun _ => ⟨rfl, rfl⟩)⟩
  show (under _ _).length = (under _ _).length
  rw [under_len, under_len, rowNodes_len h c c']
theorem uni_alt2 {Xs Ys : List Sp} (h : ∀ X ∈ Xs, Uni X) (h' : ∀ X ∈ Ys, Uni X) : Uni (alt2Sp Xs Ys) := by
  obtain ⟨hx, m, h1⟩ := uni_row h
  obtain ⟨hy, n, h2⟩ := uni_row h'
  refine ⟨fun c c' => ?_, _, fun c => PG.size_like (y := node 1 0 0 false false []) rfl (PG.Sizes.cons (h1 c) (PG.Size.one (h2 (c + rowNg Xs)))) rfl (fun _ => Iff.rfl) (fun _ => ⟨rfl, rfl⟩)⟩
  show (under _ _).length = (under _ _).length
  rw [under_len, under_len]
  simp only [List.flatten_cons, List.flatten_nil, List.append_nil, List.length_append]
  rw [hx c c', hy (c + rowNg Xs) (c' + rowNg Xs)]
theorem uni_grp {cap : Bool} {A : Sp} (h : Uni A) : Uni (grpSp cap A) := by
  obtain ⟨ha, m, h1⟩ := h
  refine ⟨fun c c' => ?_, _, fun c => PG.size_like (y := node 5 (if cap then 1 else 0) 0 false false []) rfl (PG.Size.one (h1 (c + if cap then 1 else 0))) rfl (fun _ => ?_) (fun h => absurd rfl h)⟩
  · show (under _ _).length = (under _ _).length
    rw [under_len, under_len]
    simp only [List.flatten_cons, List.flatten_nil, List.append_nil]
    rw [ha _ (c' + if cap then 1 else 0)]
  · show 0 < (if cap then (c : Int) + 1 else 0) ↔ 0 < (if cap then (1 : Int) else 0)
    cases cap
    · simp
    · simp only [if_true]; omega
theorem uni_rep {A : Sp} {r : Rp} (h : Uni A) : Uni (withRep A r) := by
  obtain ⟨ha, m, h1⟩ := h
  refine ⟨fun c c' => ?_, _, fun c => PG.size_like (y := node 6 r.lo r.hi r.lazy false []) rfl (PG.Size.one (h1 c)) rfl (fun _ => Iff.rfl) (fun _ => ⟨rfl, rfl⟩)⟩
  show (under _ _).length = (under _ _).length
  rw [under_len, under_len]
  simp only [List.flatten_cons, List.flatten_nil, List.append_nil]
  rw [ha c c']
theorem AtomF.grp {k : Nat} {x : List Int} (h : RowF k x) (cap : Bool) : AtomF (k + 1) (40 :: ((if cap then [] else [63, 58]) ++ x ++ [41])) := by
  obtain ⟨Xs, rfl, hu, h⟩ := h
  refine ⟨grpSp cap (rowSp Xs), rfl, uni_grp (uni_row hu), fun n hn => ?_⟩
  obtain ⟨m, rfl⟩ : ∃ m, n = m + 1 := ⟨n - 1, by omega⟩
  have hX := h m (by omega)
  cases cap with
  | false => exact grp_free (alt1_read hX)
  | true => exact grp_cap (alt1_read hX) (follow_row hX (by unfold RowStop; rfl))
theorem AtomF.grp2 {k : Nat} {x y : List Int} (h : RowF k x) (h' : RowF k y) (cap : Bool) : AtomF (k + 1) (40 :: ((if cap then [] else [63, 58]) ++ (x ++ (124 :: y)) ++ [41])) := by
  obtain ⟨Xs, rfl, hu, h⟩ := h
  obtain ⟨Ys, rfl, hu', h'⟩ := h'
  refine ⟨grpSp cap (alt2Sp Xs Ys), rfl, uni_grp (uni_alt2 hu hu'), fun n hn => ?_⟩
  obtain ⟨m, rfl⟩ : ∃ m, n = m + 1 := ⟨n - 1, by omega⟩
  have hX := h m (by omega)
  have hY := h' m (by omega)
  cases cap with
  | false => exact grp_free (alt2_read hX hY)
  | true =>
    refine grp_cap (alt2_read hX hY) ?_
    show Follow ((rowTxt Xs ++ (124 :: rowTxt Ys)) ++ [41])
    rw [List.append_assoc]
    exact follow_row hX (by unfold RowStop; rfl)
theorem l5_ok {k : Nat} : ∀ x ∈ l5, AtomF (k + 1) x := by
  intro x hx
  simp only [l5, List.mem_cons, List.not_mem_nil, or_false] at hx
  rcases hx with rfl | rfl | rfl | rfl
  · exact AtomF.sign (by decide) (by decide)
  · exact AtomF.sign (by decide) (by decide)
  · obtain ⟨A, hA, hu, h⟩ := AtomF.sign (k := k) (c := 99) (by decide) (by decide)
    exact AtomF.grp (RowF.one ⟨A, hA, hu, fun n hn => item_bare (h n hn)⟩) true
  · obtain ⟨A, hA, hu, h⟩ := AtomF.sign (k := k) (c := 97) (by decide) (by decide)
    exact AtomF.grp (RowF.one ⟨A, hA, hu, fun n hn => item_bare (h n hn)⟩) true
theorem l4_ok {k : Nat} : ∀ x ∈ l4, RowF k x := by
  intro x hx
  simp only [l4, List.mem_cons, List.not_mem_nil, or_false] at hx
  rcases hx with rfl | rfl | rfl | rfl
  · exact RowF.one ⟨_, rfl, uni_leaf rfl (.inr (.inl rfl)), fun n _ => item_edge (.inl ⟨rfl, rfl⟩)⟩
  · exact RowF.one ⟨_, rfl, uni_leaf rfl (.inr (.inr rfl)), fun n _ => item_edge (.inr ⟨rfl, rfl⟩)⟩
  · exact RowF.nil_
  · exact RowF.nil_
theorem lr_ok : ∀ x ∈ lr, x = [] ∨ ∃ r : Rp, r.txt = x ∧ RepOk r := by
  intro x hx
  simp only [lr, List.mem_cons, List.not_mem_nil, or_false] at hx
  rcases hx with rfl | rfl | rfl | rfl | rfl | rfl | rfl | rfl | rfl
  · exact .inl rfl
  · exact .inl rfl
  · exact .inr ⟨_, rfl, rep_star⟩
  · exact .inr ⟨_, rfl, rep_plus⟩
  · exact .inr ⟨_, rfl, rep_quest⟩
  · exact .inr ⟨_, rfl, rep_lazy⟩
  · exact .inr ⟨_, rfl, rep_12⟩
  · exact .inr ⟨_, rfl, rep_2⟩
  · exact .inr ⟨_, rfl, rep_0⟩
theorem AtomF.rep {k : Nat} {x : List Int} (h : AtomF k x) (ts : List Int) (i : Nat) : RowF k (x ++ (TP.one ts i lr).1) := by
  obtain ⟨A, rfl, hu, h⟩ := h
  rcases lr_ok _ (one_mem ts i (l := lr) (by decide)) with e | ⟨r, e, hr⟩
  · rw [e, List.append_nil]; exact RowF.one ⟨A, rfl, hu, fun n hn => item_bare (h n hn)⟩
  · rw [← e]; exact RowF.one ⟨withRep A r, rfl, uni_rep hu, fun n hn => item_rep (h n hn) hr⟩

theorem item_row {ts : List Int} {deep : Bool} {sub : Nat → List Int × Nat} {k : Nat} (hs : deep = true → ∀ i, RowF k (sub i).1) (i : Nat) : RowF (k + 1) (TP.item ts deep sub i).1 := by
  unfold TP.item
  simp only
  split
  · exact (l1_ok _ (one_mem ts _ (l := l1) (by decide))).rep ts _
  split
  · exact (l2_ok _ (one_mem ts _ (l := l2) (by decide))).rep ts _
  split
  · rename_i h
    refine AtomF.rep ?_ ts _
    have hsub := hs h.2
    unfold TP.inner
    simp only
    have h3 := one_mem ts (TP.next ts i 10).2 (l := l3) (by decide)
    simp only [l3, List.mem_cons, List.not_mem_nil, or_false] at h3
    split
    · rcases h3 with e | e
      · have := AtomF.grp2 (hsub (TP.one ts (TP.next ts i 10).2 l3).2) (hsub (TP.next ts (sub (TP.one ts (TP.next ts i 10).2 l3).2).2 3).2) true
        simpa [l3, e] using this
      · have := AtomF.grp2 (hsub (TP.one ts (TP.next ts i 10).2 l3).2) (hsub (TP.next ts (sub (TP.one ts (TP.next ts i 10).2 l3).2).2 3).2) false
        simpa [l3, e] using this
    · rcases h3 with e | e
      · have := AtomF.grp (hsub (TP.one ts (TP.next ts i 10).2 l3).2) true
        simpa [l3, e] using this
      · have := AtomF.grp (hsub (TP.one ts (TP.next ts i 10).2 l3).2) false
        simpa [l3, e] using this
  split
  · exact l4_ok _ (one_mem ts _ (l := l4) (by decide))
  · exact (l5_ok _ (one_mem ts _ (l := l5) (by decide))).rep ts _
theorem loop_row {ts : List Int} {deep : Bool} {sub : Nat → List Int × Nat} {k : Nat} (hs : deep = true → ∀ i, RowF k (sub i).1) : ∀ (n i : Nat) (out : List Int), RowF (k + 1) out → RowF (k + 1) (TP.loop ts deep sub n i out).1
  | 0, _, _, h => h
  | n + 1, i, out, h => by
    unfold TP.loop
    exact loop_row hs n _ _ (h.append (item_row hs i))
/-- Each pattern that is made is a row of elements, on every level that leaves room for its depth. -/
theorem pat_row (ts : List Int) : ∀ (d i : Nat), RowF (d + 1) (TP.pat ts d i).1
  | 0, i => loop_row (k := 0) (fun h => by cases h) _ _ _ RowF.nil_
  | d + 1, i => loop_row (k := d + 1) (fun _ i => pat_row ts d i) _ _ _ RowF.nil_
end Go.Proofs.Ytfblkahjefdmaaa.RX

/- Plain law: a pattern in a group without a number; two patterns with | between. No program in sight. -/
namespace Go.Proofs.Ytfblkahjefdmaaa.RX

theorem parse_top {s : List Int} {n : Nat} {X : Sp} (hX : Reads (fun s => altP s (altL s n)) n AltStop X) (hn : n = 12) (hs : s = X.txt) (hl : s.length ≤ 60) (hg : ∀ x ∈ s, (classOf x == 0) = false) :
    (X.ng ≤ 9 → parse s = (X.nodes 0, 0, 0)) ∧ (9 < X.ng → (parse s).2.1 ≠ 0) := by
  subst hn
  have h := hX s [] ⟨0, 0, 0, 0, 0⟩ rfl (by decide) (by decide) (Nat.zero_le _) (by rw [hs]; simp) (.inl rfl)
  have hf : s.findIdx? (fun c => classOf c == 0) = none := List.findIdx?_eq_none_iff.2 (by intro x hx; simpa using hg x hx)
  have e : altN s 12 ⟨0, 0, 0, 0, 0⟩ = altP s (altL s 12) ⟨0, 0, 0, 0, 0⟩ := by rw [altN_eq]
  have hlt : ¬ 60 < s.length := by omega
  unfold parse
  rw [if_neg hlt, hf]
  simp only
  rw [e]
  refine ⟨fun h9 => ?_, fun h9 => ?_⟩
  · have h4 : altP s (altL s 12) ⟨0, 0, 0, 0, 0⟩ = _ := h.1 (by show 0 + X.ng ≤ 9; omega)
    rw [h4]
    have h5 : ¬ (((⟨0, 0, 0, 0, 0⟩ : St).go X.txt.length X.ng).ok = true ∧ ((⟨0, 0, 0, 0, 0⟩ : St).go X.txt.length X.ng).at_ < s.length) := by
      rintro ⟨_, h6⟩
      have h6 : 0 + X.txt.length < s.length := h6
      rw [hs] at h6; omega
    simp only [if_neg h5]
    rfl
  · have h4 : (altP s (altL s 12) ⟨0, 0, 0, 0, 0⟩).2.ok = false := h.2 (by show 9 < 0 + X.ng; omega)
    generalize altP s (altL s 12) ⟨0, 0, 0, 0, 0⟩ = r at h4
    have hno : ¬ (r.2.ok = true ∧ r.2.at_ < s.length) := by rw [h4]; simp
    rw [if_neg hno, if_neg (show ¬ r.2.ok = true by rw [h4]; decide)]
    intro h5
    have h5 : r.2.code = 0 := h5
    unfold St.ok at h4
    rw [h5] at h4; cases h4
theorem parse_ok {s : List Int} {l : List ReN} {b : Int} (h : parse s = (l, 0, b)) : s.length ≤ 60 ∧ ∀ x ∈ s, (classOf x == 0) = false := by
  unfold parse at h
  split at h
  · injection h with _ h; injection h with h _; omega
  · rename_i hl
    split at h
    · injection h with _ h; injection h with h _; omega
    · rename_i hf
      refine ⟨by omega, fun x hx => ?_⟩
      have := List.findIdx?_eq_none_iff.1 hf x hx
      simpa using this
theorem groups_of {s : List Int} {l : List ReN} {n : Nat} {X : Sp} (hX : Reads (fun s => altP s (altL s n)) n AltStop X) (hn : n = 12) (hs : s = X.txt) (h : parse s = (l, 0, 0)) : l = X.nodes 0 ∧ X.ng ≤ 9 ∧ groups l = X.ng := by
  have hk := parse_ok h
  have h1 := parse_top hX hn hs hk.1 hk.2
  by_cases h9 : X.ng ≤ 9
  · have h2 := h1.1 h9
    rw [h] at h2
    injection h2 with h2 _
    refine ⟨h2, h9, ?_⟩
    subst hn
    have h3 := hX s [] ⟨0, 0, 0, 0, 0⟩ rfl (by decide) (by decide) (Nat.zero_le _) (by rw [hs]; simp) (.inl rfl)
    have h4 : altP s (altL s 12) ⟨0, 0, 0, 0, 0⟩ = _ := h3.1 (by show 0 + X.ng ≤ 9; omega)
    have hw := altN_wf s 12 ⟨0, 0, 0, 0, 0⟩ rfl rfl (Nat.zero_le _) (by decide) (by rw [altN_eq, h4]; rfl)
    rw [altN_eq, h4] at hw
    have h5 := (wf_base hw.1).grp
    have h6 : (groups (X.nodes 0) : Int) = ((0 + X.ng : Nat) : Int) - ((0 : Nat) : Int) := h5
    rw [h2]; omega
  · exact absurd (by rw [h]) (h1.2 (by omega))

/-- A pattern in (?: ): its tree, two deeper. -/
theorem within_group {p : List Int} {l : List ReN} {k : Nat} (hp : RowF k p) (hk : k ≤ 11) (h : parse p = (l, 0, 0)) (hl : p.length ≤ 56) :
    parse (40 :: 63 :: 58 :: (p ++ [41])) = (under (node 0 0 0 false false []) [under (node 5 0 0 false false []) [l]], 0, 0) := by
  obtain ⟨Xs, rfl, _, hX⟩ := hp
  have h1 := groups_of (alt1_read (hX 12 (by omega))) rfl rfl h
  have hok := parse_ok h
  have hG := item_bare (grp_free (alt1_read (hX 11 hk)))
  have hR := alt1_read (n := 12) (Xs := [grpSp false (rowSp Xs)]) (by intro X hXm; simp at hXm; subst hXm; exact hG)
  have h2 := parse_top (s := 40 :: 63 :: 58 :: (rowTxt Xs ++ [41])) hR rfl (by simp [rowSp, rowTxt, grpSp]) (by simp; omega) (by
    intro x hx
    simp at hx
    rcases hx with rfl | rfl | rfl | hx | rfl
    · rfl
    · rfl
    · rfl
    · exact hok.2 x hx
    · rfl)
  have h3 := h2.1 (by have := h1.2.1; simpa [rowSp, rowNg, grpSp] using this)
  rw [h3, h1.1]
  simp [rowSp, rowNodes, grpSp]
/-- Two patterns with | between. -/
theorem within_two {p q : List Int} {a b : List ReN} {k : Nat} (hp : RowF k p) (hq : RowF k q) (hk : k ≤ 12) (ha : parse p = (a, 0, 0)) (hb : parse q = (b, 0, 0)) (hl : p.length + q.length ≤ 59) (hg : groups a + groups b ≤ 9) :
    ∃ l, parse (p ++ (124 :: q)) = (l, 0, 0) ∧ l.length = a.length + b.length + 1 ∧ (∃ x r, l = x :: r ∧ x.kind = 1) ∧ groups l = groups a + groups b := by
  obtain ⟨Xs, rfl, hu, hX⟩ := hp
  obtain ⟨Ys, rfl, hu', hY⟩ := hq
  have h1 := groups_of (alt1_read (hX 12 hk)) rfl rfl ha
  have h2 := groups_of (alt1_read (hY 12 hk)) rfl rfl hb
  have hok := parse_ok ha
  have hok' := parse_ok hb
  have hR := alt2_read (hX 12 hk) (hY 12 hk)
  have hng : rowNg Xs + rowNg Ys ≤ 9 := by have e1 : (rowSp Xs).ng = rowNg Xs := rfl; have e2 : (rowSp Ys).ng = rowNg Ys := rfl; omega
  have h3 := (parse_top (s := rowTxt Xs ++ (124 :: rowTxt Ys)) hR rfl rfl (by simp; omega) (by
    intro x hx
    simp at hx
    rcases hx with hx | rfl | hx
    · exact hok.2 x hx
    · rfl
    · exact hok'.2 x hx)).1 hng
  refine ⟨_, h3, ?_, ⟨_, _, rfl, rfl⟩, ?_⟩
  · show (under _ _).length = _
    rw [under_len, h1.1, h2.1]
    simp only [List.flatten_cons, List.flatten_nil, List.append_nil, List.length_append]
    rw [(uni_row hu').1 (0 + rowNg Xs) 0]; omega
  · have h4 := groups_of hR rfl rfl h3
    rw [h4.2.2, h1.2.2, h2.2.2]; rfl
end Go.Proofs.Ytfblkahjefdmaaa.RX

/- Plain law: of two patterns put together the program is both programs, one behind the other. No program in sight. -/
namespace Go.Proofs.Ytfblkahjefdmaaa.PG
open RX (ReN Top under lift node RowF)

theorem lift_zero (t : List ReN) : t.map (lift 0) = t := by
  conv => rhs; rw [← List.map_id t]
  exact List.map_congr_left fun x _ => by unfold lift; simp
/-- A pattern's program is its tree's, with notes around. -/
theorem compile_tree {s : List Int} {l : List Inst} {p : Int} (h : compile s = (l, 0, p)) : ∃ t : List ReN, RX.parse s = (t, 0, 0) ∧ l = ⟨3, 0, 0, false, []⟩ :: ((tree t.length t).l.map (moved 1) ++ [⟨3, 1, 0, false, []⟩, ⟨6, 0, 0, false, []⟩]) ∧ (tree t.length t).l.length = (tree t.length t).n ∧ (tree t.length t).n < 301 := by
  obtain ⟨t, e, hp, -, rfl, hn, -⟩ := compile_made h
  obtain ⟨b, hw, -⟩ := RX.parse_wf hp
  have hb := RX.wf_base hw
  have hg : (RX.groups t : Int) = b := by have := hb.grp; omega
  have hok := tree_wf (g := RX.groups t) hw (Int.le_refl _) (by omega) 0 t.length (Nat.le_refl _)
  rw [lift_zero] at hok
  obtain ⟨-, -, h3, h4⟩ := whole_made (RX.parse_sms hp) hok hn
  refine ⟨t, hp, h4, ?_, by omega⟩
  rcases hok.1 with h5 | h5
  · exact h5.2
  · omega
theorem flat_app : ∀ (ps qs : List Part) (k : Nat), flat k (ps ++ qs) = flat k ps ++ flat (k + total ps) qs
  | [], qs, k => by simp [flat, total]
  | p :: ps, qs, k => by
    have ht : total (p :: ps) = p.n + total ps := rfl
    rw [List.cons_append, flat, flat, flat_app ps qs, ht, List.append_assoc, Nat.add_assoc]
theorem total_app : ∀ (ps qs : List Part), total (ps ++ qs) = total ps + total qs
  | [], qs => by simp [total]
  | p :: ps, qs => by
    have h1 : total (p :: ps) = p.n + total ps := rfl
    have h2 : total (p :: (ps ++ qs)) = p.n + total (ps ++ qs) := rfl
    rw [List.cons_append, h1, h2, total_app ps qs, Nat.add_assoc]
theorem total_n : ∀ {ps qs : List Part}, ps.map Part.n = qs.map Part.n → total ps = total qs
  | [], [], _ => rfl
  | [], _ :: _, h => by simp at h
  | _ :: _, [], h => by simp at h
  | p :: ps, q :: qs, h => by
    rw [List.map_cons, List.map_cons] at h
    injection h with h1 h2
    have e1 : total (p :: ps) = p.n + total ps := rfl
    have e2 : total (q :: qs) = q.n + total qs := rfl
    rw [e1, e2, h1, total_n h2]
theorem rowNodes_app : ∀ (Xs Ys : List RX.Sp) (c : Nat), RX.rowNodes c (Xs ++ Ys) = RX.rowNodes c Xs ++ RX.rowNodes (c + RX.rowNg Xs) Ys
  | [], Ys, c => by simp [RX.rowNodes, RX.rowNg]
  | X :: Xs, Ys, c => by
    have hng : RX.rowNg (X :: Xs) = X.ng + RX.rowNg Xs := by unfold RX.rowNg; rw [List.map_cons, List.sum_cons]
    rw [List.cons_append, RX.rowNodes, RX.rowNodes, rowNodes_app Xs Ys, hng, List.cons_append, Nat.add_assoc]
/-- A row's tree: the row of its items' programs, whatever the fuel. -/
theorem tree_row {ls : List (List ReN)} (ht : ∀ l ∈ ls, Top l) : tree (under (node 0 0 0 false false []) ls).length (under (node 0 0 0 false false []) ls) = row (ls.map fun l => tree (ls.flatten.length) (l.map (lift 1))) := by
  obtain ⟨n, hn⟩ : ∃ n, n = ls.flatten.length := ⟨_, rfl⟩
  have hl : (under (node 0 0 0 false false []) ls).length = n + 1 := by unfold under; rw [List.length_cons, List.length_map, hn]
  rw [hl, ← hn]
  conv => lhs; rw [← lift_zero (under (node 0 0 0 false false []) ls)]
  rw [tree_under ht]
  rfl
/-- Whatever the fuel, a tree's program is the same. -/
theorem tree_fuel : ∀ (n m : Nat) (l : List ReN), l.length ≤ n → l.length ≤ m → tree n l = tree m l
  | 0, m, l, h, _ => by
    have : l = [] := List.eq_nil_of_length_eq_zero (by omega)
    subst this
    cases m <;> rfl
  | n + 1, 0, l, _, h => by
    have : l = [] := List.eq_nil_of_length_eq_zero (by omega)
    subst this
    rfl
  | n + 1, m + 1, [], _, _ => rfl
  | n + 1, m + 1, x :: r, h1, h2 => by
    rw [tree, tree]
    congr 1
    refine List.map_congr_left fun k hk => tree_fuel n m k ?_ ?_
    all_goals
      have := kids_short _ _ k hk
      simp at h1 h2
      omega
where kids_short : ∀ (n : Nat) (r : List ReN), ∀ k ∈ kids n r, k.length ≤ r.length
  | 0, r, k, hk => by cases r <;> simp [kids] at hk
  | n + 1, [], k, hk => by simp [kids] at hk
  | n + 1, x :: r, k, hk => by
    rw [kids] at hk
    rcases List.mem_cons.1 hk with rfl | hk
    · have := (List.takeWhile_sublist (p := fun y : ReN => decide (x.deep < y.deep)) (l := r)).length_le
      simp only [List.length_cons]; omega
    · have h1 := kids_short n _ k hk
      have := (List.dropWhile_sublist (p := fun y : ReN => decide (x.deep < y.deep)) (l := r)).length_le
      simp only [List.length_cons]; omega
/-- Two patterns put together. -/
theorem rows_two {p q : List Int} {a b c : List Inst} {x y z : Int} {k : Nat} (hp : RowF k p) (hq : RowF k q) (hk : k ≤ 12) (ha : compile p = (a, 0, x)) (hb : compile q = (b, 0, y)) (hc : compile (p ++ q) = (c, 0, z)) :
    c.length + 3 = a.length + b.length ∧ ∀ i : Nat, i + 2 < a.length → a[i]? = c[i]? := by
  obtain ⟨Xs, rfl, hu, hX⟩ := hp
  obtain ⟨Ys, rfl, hu', hY⟩ := hq
  obtain ⟨ta, hpa, rfl, la, na⟩ := compile_tree ha
  obtain ⟨tb, hpb, rfl, lb, nb⟩ := compile_tree hb
  obtain ⟨tc, hpc, rfl, lc, nc⟩ := compile_tree hc
  have e1 := (RX.groups_of (RX.alt1_read (hX 12 hk)) rfl rfl hpa).1
  have e2 := (RX.groups_of (RX.alt1_read (hY 12 hk)) rfl rfl hpb).1
  have hXY : ∀ X ∈ Xs ++ Ys, RX.Item 12 X := fun X hm => by
    rcases List.mem_append.1 hm with h | h
    · exact hX 12 hk X h
    · exact hY 12 hk X h
  have e3 := (RX.groups_of (RX.alt1_read hXY) rfl (by simp [RX.rowSp, RX.rowTxt]) hpc).1
  obtain ⟨ms, hms⟩ := RX.rowNodes_sizes hu
  obtain ⟨ns, hns⟩ := RX.rowNodes_sizes hu'
  subst e1 e2 e3
  have f1 : ∀ (Zs : List RX.Sp) (d : Nat), (RX.rowSp Zs).nodes d = under (node 0 0 0 false false []) (RX.rowNodes d Zs) := fun _ _ => rfl
  rw [f1] at la na lb nb lc nc ⊢
  rw [f1, f1]
  rw [rowNodes_app, Nat.zero_add] at lc nc ⊢
  have ta := (hms 0).1
  have tb := (hns 0).1
  have tb' := (hns (RX.rowNg Xs)).1
  have tc : ∀ l ∈ RX.rowNodes 0 Xs ++ RX.rowNodes (RX.rowNg Xs) Ys, Top l := fun l hl => by
    rcases List.mem_append.1 hl with h | h
    · exact ta l h
    · exact tb' l h
  rw [tree_row ta] at la na ⊢
  rw [tree_row tb] at lb nb ⊢
  rw [tree_row tc] at lc nc ⊢
  obtain ⟨N, hN⟩ : ∃ N, N = (RX.rowNodes 0 Xs ++ RX.rowNodes (RX.rowNg Xs) Ys).flatten.length := ⟨_, rfl⟩
  obtain ⟨M, hM⟩ : ∃ M, M = (RX.rowNodes 0 Xs).flatten.length := ⟨_, rfl⟩
  obtain ⟨L, hL⟩ : ∃ L, L = (RX.rowNodes 0 Ys).flatten.length := ⟨_, rfl⟩
  have hle : ∀ (ls : List (List ReN)) (l : List ReN), l ∈ ls → l.length ≤ ls.flatten.length := fun ls l hl => by
    have := under_len (x := node 0 0 0 false false []) hl
    unfold under at this
    simp only [List.length_cons, List.length_map] at this
    omega
  have hXs : ∀ l ∈ RX.rowNodes 0 Xs, l.length ≤ N := fun l hl => by rw [hN]; exact hle _ l (List.mem_append_left _ hl)
  have hYs : ∀ l ∈ RX.rowNodes (RX.rowNg Xs) Ys, l.length ≤ N := fun l hl => by rw [hN]; exact hle _ l (List.mem_append_right _ hl)
  have hXm : ∀ l ∈ RX.rowNodes 0 Xs, l.length ≤ M := fun l hl => by rw [hM]; exact hle _ l hl
  have hYl : ∀ l ∈ RX.rowNodes 0 Ys, l.length ≤ L := fun l hl => by rw [hL]; exact hle _ l hl
  rw [← hM] at la na ⊢
  rw [← hL] at lb nb ⊢
  rw [← hN, List.map_append] at lc nc ⊢
  have hsame : ((RX.rowNodes 0 Xs).map fun l => tree N (l.map (lift 1))) = ((RX.rowNodes 0 Xs).map fun l => tree M (l.map (lift 1))) :=
    List.map_congr_left fun l hl => tree_fuel N M _ (by rw [List.length_map]; exact hXs l hl) (by rw [List.length_map]; exact hXm l hl)
  rw [hsame] at lc nc ⊢
  have hq1 : ((RX.rowNodes (RX.rowNg Xs) Ys).map fun l => tree N (l.map (lift 1))).map Part.n = ((RX.rowNodes 0 Ys).map fun l => tree L (l.map (lift 1))).map Part.n := by
    rw [List.map_map, List.map_map]
    exact ((hns (RX.rowNg Xs)).2 1 N hYs).trans ((hns 0).2 1 L hYl).symm
  have hf1 : ∀ p ∈ (RX.rowNodes 0 Xs).map fun l => tree M (l.map (lift 1)), Fine p := fun p hp => by obtain ⟨l, -, rfl⟩ := List.mem_map.1 hp; exact tree_fine _ _
  have hf2 : ∀ p ∈ (RX.rowNodes (RX.rowNg Xs) Ys).map fun l => tree N (l.map (lift 1)), Fine p := fun p hp => by obtain ⟨l, -, rfl⟩ := List.mem_map.1 hp; exact tree_fine _ _
  have hf3 : ∀ p ∈ (RX.rowNodes 0 Ys).map fun l => tree L (l.map (lift 1)), Fine p := fun p hp => by obtain ⟨l, -, rfl⟩ := List.mem_map.1 hp; exact tree_fine _ _
  generalize (RX.rowNodes 0 Xs).map (fun l => tree M (l.map (lift 1))) = A at *
  generalize (RX.rowNodes (RX.rowNg Xs) Ys).map (fun l => tree N (l.map (lift 1))) = B' at *
  generalize (RX.rowNodes 0 Ys).map (fun l => tree L (l.map (lift 1))) = B at *
  have hrow : ∀ {ps : List Part}, (∀ p ∈ ps, Fine p) → (row ps).n < 301 → row ps = ⟨flat 0 ps, total ps⟩ := fun {ps} hp hn => by
    by_cases h : total ps < 301
    · exact ((row_eq hp).1 h).1
    · rw [(row_eq hp).2 (by omega)] at hn
      exact absurd hn (by decide)
  have rA := hrow hf1 na
  have rB := hrow hf3 nb
  have rC := hrow (fun p hp => by
    rcases List.mem_append.1 hp with h | h
    · exact hf1 p h
    · exact hf2 p h) nc
  rw [rA] at la ⊢
  rw [rB] at lb ⊢
  rw [rC] at lc ⊢
  have ht := total_n hq1
  rw [total_app, ht] at lc
  simp only at la lb lc
  refine ⟨?_, fun i hi => ?_⟩
  · simp only [List.length_cons, List.length_append, List.length_map, List.length_nil, la, lb, lc]
    omega
  · simp only [List.length_cons, List.length_append, List.length_map, List.length_nil] at hi
    rw [flat_app, List.map_append]
    match i with
    | 0 => rfl
    | i + 1 =>
      rw [List.getElem?_cons_succ, List.getElem?_cons_succ, List.append_assoc, List.getElem?_append_left (by rw [List.length_map, la]; omega), List.getElem?_append_left (by rw [List.length_map, la]; omega)]
end Go.Proofs.Ytfblkahjefdmaaa.PG

/- Plain law: a folding matcher finds the same in letters of either case. No program in sight. -/
namespace Go.Proofs.Ytfblkahjefdmaaa.MX
open PG (Inst)

/-- Small letters, great letters. -/
def Small (r : Int) : Prop := (97 ≤ r ∧ r ≤ 122) ∨ (224 ≤ r ∧ r ≤ 254 ∧ r ≠ 247)
def Great (r : Int) : Prop := (65 ≤ r ∧ r ≤ 90) ∨ (192 ≤ r ∧ r ≤ 222 ∧ r ≠ 215)
theorem upper_small {r : Int} (h : Small r) : RX.upper r = r - 32 := by
  unfold RX.upper RX.within
  unfold Small at h
  rw [if_pos (by simp only [Bool.and_eq_true, decide_eq_true_eq]; omega)]
theorem upper_not {r : Int} (h : ¬ Small r) : RX.upper r = r := by
  unfold RX.upper RX.within
  unfold Small at h
  rw [if_neg (by simp only [Bool.and_eq_true, decide_eq_true_eq]; omega)]
theorem lower_great {r : Int} (h : Great r) : RX.lower r = r + 32 := by
  unfold RX.lower RX.within
  unfold Great at h
  rw [if_pos (by simp only [Bool.and_eq_true, decide_eq_true_eq]; omega)]
theorem lower_not {r : Int} (h : ¬ Great r) : RX.lower r = r := by
  unfold RX.lower RX.within
  unfold Great at h
  rw [if_neg (by simp only [Bool.and_eq_true, decide_eq_true_eq]; omega)]
theorem isIn_case (r q : Int) (x : Inst) (h : q = RX.upper r ∨ q = RX.lower r) : isIn true q x = isIn true r x := by
  unfold isIn
  congr 1
  simp only [Bool.true_and]
  by_cases hs : Small r
  · have hg : ¬ Great r := by unfold Small at hs; unfold Great; omega
    have hg2 : Great (r - 32) := by unfold Small at hs; unfold Great; omega
    have hs2 : ¬ Small (r - 32) := by unfold Small at hs ⊢; omega
    rw [upper_small hs, lower_not hg] at h ⊢
    rcases h with rfl | rfl
    · rw [upper_not hs2, lower_great hg2, show r - 32 + 32 = r by omega]
      cases lies (r - 32) x.set <;> cases lies r x.set <;> rfl
    · rw [upper_small hs, lower_not hg]
  · by_cases hg : Great r
    · have hg2 : ¬ Great (r + 32) := by unfold Great at hg ⊢; omega
      have hs2 : Small (r + 32) := by unfold Great at hg; unfold Small; omega
      rw [upper_not hs, lower_great hg] at h ⊢
      rcases h with rfl | rfl
      · rw [upper_not hs, lower_great hg]
      · rw [upper_small hs2, lower_not hg2, show r + 32 - 32 = r by omega]
        cases lies (r + 32) x.set <;> cases lies r x.set <;> rfl
    · rw [upper_not hs, lower_not hg] at h ⊢
      rcases h with rfl | rfl <;> rw [upper_not hs, lower_not hg]
/-- The same text, in letters of either case. -/
def Cased (s u : List Int) : Prop := u.length = s.length ∧ ∀ (i : Nat) (r : Int), s[i]? = some r → u[i]? = some (RX.upper r) ∨ u[i]? = some (RX.lower r)
theorem hits_case {s u : List Int} (h : Cased s u) (at_ : Nat) (x : Inst) : hits true u at_ x = hits true s at_ x := by
  unfold hits
  rcases hs : s[at_]? with _ | r
  · rw [List.getElem?_eq_none (by have := List.getElem?_eq_none_iff.1 hs; have := h.1; omega)]
  · rcases h.2 at_ r hs with h1 | h1
    · rw [h1]; exact isIn_case r _ x (.inl rfl)
    · rw [h1]; exact isIn_case r _ x (.inr rfl)
theorem act_case {s u : List Int} (h : Cased s u) (prog : List Inst) : act prog true u = act prog true s := by
  funext pc at_
  unfold act
  simp only [hits_case h, h.1]
end Go.Proofs.Ytfblkahjefdmaaa.MX

/- Plain law: a pattern of letters in a group is found where it first stands. No program in sight. -/
namespace Go.Proofs.Ytfblkahjefdmaaa.MX
open PG (Inst)

/-- Words of up to so many letters. -/
def words : Nat → List (List Int)
  | 0 => [[]]
  | n + 1 => [] :: ((words n).map (97 :: ·) ++ ((words n).map (98 :: ·) ++ (words n).map (99 :: ·)))
theorem words_mem : ∀ (n : Nat) (w : List Int), w.length ≤ n → (∀ c ∈ w, 97 ≤ c ∧ c ≤ 99) → w ∈ words n
  | 0, [], _, _ => by simp [words]
  | 0, _ :: _, h, _ => by simp at h
  | n + 1, [], _, _ => by simp [words]
  | n + 1, c :: w, h, hc => by
    have h1 := words_mem n w (by simpa using h) (fun x hx => hc x (by simp [hx]))
    have h2 := hc c (by simp)
    have h3 : c = 97 ∨ c = 98 ∨ c = 99 := by omega
    simp only [words, List.mem_cons, List.mem_append, List.mem_map]
    rcases h3 with rfl | rfl | rfl
    · exact .inr (.inl ⟨w, h1, rfl⟩)
    · exact .inr (.inr (.inl ⟨w, h1, rfl⟩))
    · exact .inr (.inr (.inr ⟨w, h1, rfl⟩))
def lit (c : Int) : Inst := ⟨0, 0, 0, false, [c, c]⟩
def wprog (w : List Int) : List Inst := ⟨3, 0, 0, false, []⟩ :: ⟨3, 2, 0, false, []⟩ :: (w.map lit ++ [⟨3, 3, 0, false, []⟩, ⟨3, 1, 0, false, []⟩, ⟨6, 0, 0, false, []⟩])
def inGroup (w : List Int) : List Int := 40 :: (w ++ [41])
theorem compile_words : (words 4).map (fun w => PG.compile (inGroup w)) = (words 4).map (fun w => (wprog w, (0 : Int), (0 : Int))) := by kernel_rfl
theorem parse_words : (words 4).map (fun w => RX.groups (RX.parse (inGroup w)).1) = (words 4).map (fun _ => 1) := by kernel_rfl
theorem compile_word {w : List Int} (h : w.length ≤ 4) (hc : ∀ c ∈ w, 97 ≤ c ∧ c ≤ 99) : PG.compile (inGroup w) = (wprog w, 0, 0) := List.map_inj_left.1 compile_words w (words_mem 4 w h hc)
theorem parse_word {w : List Int} (h : w.length ≤ 4) (hc : ∀ c ∈ w, 97 ≤ c ∧ c ≤ 99) : ∃ t, RX.parse (inGroup w) = (t, 0, 0) ∧ RX.groups t = 1 := by
  obtain ⟨t, e, h1, -⟩ := PG.compile_made (compile_word h hc)
  have h2 := List.map_inj_left.1 parse_words w (words_mem 4 w h hc)
  simp only [h1] at h2
  exact ⟨t, h1, h2⟩

/-- Does a word stand at a place, for a folding matcher? -/
def standsL (s : List Int) : List Int → Nat → Bool
  | [], _ => true
  | c :: v, q => hits true s q (lit c) && standsL s v (q + 1)
theorem wprog_len (w : List Int) : (wprog w).length = w.length + 5 := by simp [wprog]
theorem wprog_lit (w : List Int) (k : Nat) (c : Int) (h : w[k]? = some c) : (wprog w)[2 + k]? = some (lit c) := by
  obtain ⟨hk, -⟩ := List.getElem?_eq_some_iff.1 h
  rw [show 2 + k = k + 1 + 1 by omega]
  unfold wprog
  rw [List.getElem?_cons_succ, List.getElem?_cons_succ, List.getElem?_append_left (by simpa using hk), List.getElem?_map, h]
  rfl
theorem wprog_end (w : List Int) (j : Nat) : (wprog w)[2 + w.length + j]? = ([⟨3, 3, 0, false, []⟩, ⟨3, 1, 0, false, []⟩, ⟨6, 0, 0, false, []⟩] : List Inst)[j]? := by
  rw [show 2 + w.length + j = (w.length + j) + 1 + 1 by omega]
  unfold wprog
  rw [List.getElem?_cons_succ, List.getElem?_cons_succ, List.getElem?_append_right (by simp)]
  simp
theorem act_lit (w s : List Int) (k at_ : Nat) (c : Int) (h : w[k]? = some c) : act (wprog w) true s (2 + k) at_ = if hits true s at_ (lit c) = true then .to (2 + k + 1) (at_ + 1) else .fail := by
  unfold act
  rw [wprog_lit w k c h]
  rfl
theorem act_end (w s : List Int) (at_ : Nat) : act (wprog w) true s (2 + w.length) at_ = .save 3 ∧ act (wprog w) true s (2 + w.length + 1) at_ = .save 1 ∧ act (wprog w) true s (2 + w.length + 2) at_ = .done := by
  have h0 := wprog_end w 0
  have h1 := wprog_end w 1
  have h2 := wprog_end w 2
  rw [Nat.add_zero] at h0
  unfold act
  rw [h0, h1, h2]
  exact ⟨rfl, rfl, rfl⟩
theorem mark_far {S : Seen} {pc at_ p a : Nat} (h : p ≠ pc) : mark S pc at_ p a = S p a := by
  unfold mark; rw [if_neg (by rintro ⟨e, -⟩; exact h e)]
theorem word_exp (w s : List Int) (p : Nat) : ∀ (v : List Int) (k : Nat) (S : Seen) (nt : List Int), w.drop k = v → k ≤ w.length → (∀ pc a, 2 + k ≤ pc → S pc a = false) →
    ∃ S', Exp (act (wprog w) true s) S (2 + k) (p + k) nt S' (if standsL s v (p + k) = true then some ((nt.set 3 ((p + w.length : Nat) : Int)).set 1 ((p + w.length : Nat) : Int)) else none)
  | [], k, S, nt, hd, hk, hS => by
    have hk : k = w.length := by have := List.drop_eq_nil_iff.1 hd; omega
    subst hk
    obtain ⟨a0, a1, a2⟩ := act_end w s (p + w.length)
    refine ⟨mark (mark (mark S (2 + w.length) (p + w.length)) (2 + w.length + 1) (p + w.length)) (2 + w.length + 2) (p + w.length), .save _ _ _ _ _ _ _ (hS _ _ (Nat.le_refl _)) a0 (.save _ _ _ _ _ _ _ (by rw [mark_far (by omega)]; exact hS _ _ (by omega)) a1 ?_)⟩
    simp only [standsL, if_true]
    exact .done _ _ _ _ (by rw [mark_far (by omega), mark_far (by omega)]; exact hS _ _ (by omega)) a2
  | c :: v, k, S, nt, hd, hk, hS => by
    have hlt : k < w.length := by
      rcases Nat.lt_or_ge k w.length with h | h
      · exact h
      · rw [List.drop_eq_nil_of_le h] at hd; cases hd
    have hc : w[k]? = some c ∧ w.drop (k + 1) = v := by
      rw [List.drop_eq_getElem_cons hlt] at hd
      injection hd with h1 h2
      exact ⟨by rw [List.getElem?_eq_getElem hlt, h1], h2⟩
    have ha := act_lit w s k (p + k) c hc.1
    unfold standsL
    by_cases hh : hits true s (p + k) (lit c) = true
    · rw [if_pos hh] at ha
      obtain ⟨S', h1⟩ := word_exp w s p v (k + 1) (mark S (2 + k) (p + k)) nt hc.2 hlt (fun pc a h => by rw [mark_far (by omega)]; exact hS _ _ (by omega))
      rw [hh, Bool.true_and]
      exact ⟨S', .to _ _ _ _ _ _ _ _ (hS _ _ (Nat.le_refl _)) ha h1⟩
    · rw [if_neg hh] at ha
      rw [Bool.not_eq_true] at hh
      rw [hh, Bool.false_and, if_neg (by decide)]
      exact ⟨_, .fail _ _ _ _ (hS _ _ (Nat.le_refl _)) ha⟩
theorem word_tries (w s : List Int) (p : Nat) : Tries (act (wprog w) true s) (blank 1) p (if standsL s w p = true then some [(p : Int), ((p + w.length : Nat) : Int), (p : Int), ((p + w.length : Nat) : Int)] else none) := by
  obtain ⟨S', h⟩ := word_exp w s p w 0 (mark (mark (fun _ _ => false) 0 p) 1 p) (((blank 1).set 0 (p : Int)).set 2 (p : Int)) rfl (Nat.zero_le _) (fun pc a h => by rw [mark_far (by omega), mark_far (by omega)])
  exact ⟨S', .save _ _ 0 p 0 _ _ rfl rfl (.save _ _ 1 p 2 _ _ (by rw [mark_far (by omega)]) rfl h)⟩
theorem word_none {w s : List Int} {n from_ : Nat} (h : ∀ p, from_ ≤ p → p ≤ n → standsL s w p = false) : First (act (wprog w) true s) n (blank 1) from_ none := by
  intro p h1 h2
  have h3 := word_tries w s p
  rw [h p h1 h2, if_neg (by decide)] at h3
  exact h3
theorem word_some {w s : List Int} {n from_ p : Nat} (h1 : from_ ≤ p) (h2 : p ≤ n) (h3 : standsL s w p = true) (h4 : ∀ q, from_ ≤ q → q < p → standsL s w q = false) : First (act (wprog w) true s) n (blank 1) from_ (some [(p : Int), ((p + w.length : Nat) : Int), (p : Int), ((p + w.length : Nat) : Int)]) := by
  refine ⟨p, h1, h2, ?_, fun q h5 h6 => ?_⟩
  · have h5 := word_tries w s p
    rw [h3, if_pos rfl] at h5
    exact h5
  · have h7 := word_tries w s q
    rw [h4 q h5 h6, if_neg (by decide)] at h7
    exact h7
/-- Letters alone: the text's sign is the word's. -/
theorem isIn_low {r c : Int} (hr : 97 ≤ r ∧ r ≤ 99) (hc : 97 ≤ c ∧ c ≤ 99) : isIn true r (lit c) = decide (r = c) := by
  have hs : Small r := by unfold Small; omega
  have hg : ¬ Great r := by unfold Great; omega
  unfold isIn lit
  rw [upper_small hs, lower_not hg]
  have e : ∀ q : Int, lies q [c, c] = decide (q = c) := fun q => by
    rw [Bool.eq_iff_iff]
    simp only [lies, Bool.or_false, Bool.and_eq_true, decide_eq_true_eq]
    omega
  simp only [e, Bool.true_and, decide_eq_false (show ¬ r - 32 = c by omega), Bool.false_or, Bool.or_self, Bool.bne_false]
theorem stands_iff {t : List Int} (ht : ∀ c ∈ t, 97 ≤ c ∧ c ≤ 99) : ∀ (w : List Int) (p : Nat), (∀ c ∈ w, 97 ≤ c ∧ c ≤ 99) → (standsL t w p = true ↔ (t.drop p).take w.length = w)
  | [], p, _ => by simp [standsL]
  | c :: w, p, hc => by
    have ih := stands_iff ht w (p + 1) (fun x hx => hc x (by simp [hx]))
    unfold standsL hits
    rcases Nat.lt_or_ge p t.length with h | h
    · rw [List.getElem?_eq_getElem h]
      simp only
      rw [isIn_low (ht _ (List.getElem_mem h)) (hc c (by simp)), Bool.and_eq_true, ih, decide_eq_true_eq, List.drop_eq_getElem_cons h, List.length_cons, List.take_succ_cons, List.cons.injEq]
    · rw [List.getElem?_eq_none h, List.drop_eq_nil_of_le h]
      simp
end Go.Proofs.Ytfblkahjefdmaaa.MX
