/- Plain law: texts that are made of elements: how the reader reads each of them. No program in sight. -/
import Derived.Test.YtfblkahjefdmaaaReW
namespace Go.Proofs.Ytfblkahjefdmaaa.RX

/-- A text, its groups, its nodes (of the groups so far). -/
structure Sp where
  txt : List Int
  ng : Nat
  nodes : Nat → List ReN

/-- What follows begins no repeat. -/
def Follow (rest : List Int) : Prop := ∀ c, rest.head? = some c → c ≠ 42 ∧ c ≠ 43 ∧ c ≠ 63 ∧ c ≠ 123
def St.go (st : St) (n g : Nat) : St := { st with at_ := st.at_ + n, caps := st.caps + g }

theorem nxt_drop (s : List Int) (st : St) (k : Nat) : nxt s st k = ((s.drop st.at_)[k]?).getD (-1) := by
  unfold nxt; rw [List.getElem?_drop]
theorem nxt_bump (s : List Int) (st : St) (m k : Nat) : nxt s (st.bump m) k = nxt s st (m + k) := by
  unfold nxt St.bump; simp only [Nat.add_assoc]
theorem nxt_txt {s x rest : List Int} {st : St} (h : s.drop st.at_ = x ++ rest) {k : Nat} (hk : k < x.length) : nxt s st k = x[k] := by
  rw [nxt_drop, h, List.getElem?_append_left hk, List.getElem?_eq_getElem hk]; rfl
theorem nxt_rest {s x rest : List Int} {st : St} (h : s.drop st.at_ = x ++ rest) : nxt s st x.length = (rest.head?).getD (-1) := by
  rw [nxt_drop, h, List.getElem?_append_right (Nat.le_refl _), Nat.sub_self]
  cases rest <;> rfl
theorem follow_ne {rest : List Int} (h : Follow rest) : (rest.head?).getD (-1) ≠ 42 ∧ (rest.head?).getD (-1) ≠ 43 ∧ (rest.head?).getD (-1) ≠ 63 ∧ (rest.head?).getD (-1) ≠ 123 := by
  cases rest with
  | nil => decide
  | cons c r => exact h c rfl
theorem repeat_none {s rest : List Int} {st : St} {atom : List ReN} (h : s.drop st.at_ = rest) (hf : Follow rest) : repeatP s atom st = (atom, st) := by
  have h0 : nxt s st 0 = (rest.head?).getD (-1) := nxt_rest (x := []) h
  have h1 := follow_ne hf
  unfold repeatP repTop
  simp only [h0, if_neg h1.1, if_neg h1.2.1, if_neg h1.2.2.1, if_neg h1.2.2.2]

theorem ok_bump (st : St) (n : Nat) : (st.bump n).ok = st.ok := rfl
theorem bump_bump (st : St) (a b : Nat) : (st.bump a).bump b = st.bump (a + b) := by unfold St.bump; simp only [Nat.add_assoc]
/-- The repeats that are made. -/
structure Rp where
  txt : List Int
  lo : Int
  hi : Int
  lazy : Bool
def RepOk (r : Rp) : Prop := ∀ (s rest : List Int) (st : St) (atom : List ReN), st.ok = true → s.drop st.at_ = r.txt ++ rest → Follow rest → repeatP s atom st = (under (node 6 r.lo r.hi r.lazy false []) [atom], st.bump r.txt.length)

theorem rep_star : RepOk ⟨[42], 0, -1, false⟩ := by
  intro s rest st atom hok h hf
  have h0 := nxt_txt (k := 0) h (by decide)
  have h1 := nxt_rest h
  have h2 := (follow_ne hf).2.2.1
  simp only [List.length_cons, List.length_nil, Nat.zero_add] at h1
  simp at h0
  unfold repeatP repTop
  simp [h0, nxt_bump, h1, h2]
theorem rep_plus : RepOk ⟨[43], 1, -1, false⟩ := by
  intro s rest st atom hok h hf
  have h0 := nxt_txt (k := 0) h (by decide)
  have h1 := nxt_rest h
  have h2 := (follow_ne hf).2.2.1
  simp only [List.length_cons, List.length_nil, Nat.zero_add] at h1
  simp at h0
  unfold repeatP repTop
  simp [h0, nxt_bump, h1, h2]
theorem rep_quest : RepOk ⟨[63], 0, 1, false⟩ := by
  intro s rest st atom hok h hf
  have h0 := nxt_txt (k := 0) h (by decide)
  have h1 := nxt_rest h
  have h2 := (follow_ne hf).2.2.1
  simp only [List.length_cons, List.length_nil, Nat.zero_add] at h1
  simp at h0
  unfold repeatP repTop
  simp [h0, nxt_bump, h1, h2]
theorem rep_lazy : RepOk ⟨[42, 63], 0, -1, true⟩ := by
  intro s rest st atom hok h _
  have h0 := nxt_txt (k := 0) h (by decide)
  have h1 := nxt_txt (k := 1) h (by decide)
  simp at h0 h1
  have hb : (st.bump 1).ok = true := hok
  unfold repeatP repTop
  simp [h0, nxt_bump, h1, hb]
  rfl
theorem rep_12 : RepOk ⟨[123, 49, 44, 50, 125], 1, 2, false⟩ := by
  intro s rest st atom hok h hf
  have h0 : nxt s st 0 = 123 := nxt_txt (k := 0) h (by decide)
  have h1 : nxt s st 1 = 49 := nxt_txt (k := 1) h (by decide)
  have h2 : nxt s st 2 = 44 := nxt_txt (k := 2) h (by decide)
  have h3 : nxt s st 3 = 50 := nxt_txt (k := 3) h (by decide)
  have h4 : nxt s st 4 = 125 := nxt_txt (k := 4) h (by decide)
  have hr : nxt s st 5 = _ := nxt_rest h
  have hq := (follow_ne hf).2.2.1
  unfold repeatP repTop bounds high must digit
  simp [nxt_bump, bump_bump, ok_bump, hok, hr, hq, h0, h1, h2, h3, h4]
theorem rep_2 : RepOk ⟨[123, 50, 125], 2, 2, false⟩ := by
  intro s rest st atom hok h hf
  have h0 : nxt s st 0 = 123 := nxt_txt (k := 0) h (by decide)
  have h1 : nxt s st 1 = 50 := nxt_txt (k := 1) h (by decide)
  have h2 : nxt s st 2 = 125 := nxt_txt (k := 2) h (by decide)
  have hr : nxt s st 3 = _ := nxt_rest h
  have hq := (follow_ne hf).2.2.1
  unfold repeatP repTop bounds high must digit
  simp [nxt_bump, bump_bump, ok_bump, hok, hr, hq, h0, h1, h2]
theorem rep_0 : RepOk ⟨[123, 48, 44, 125, 63], 0, -1, true⟩ := by
  intro s rest st atom hok h _
  have h0 : nxt s st 0 = 123 := nxt_txt (k := 0) h (by decide)
  have h1 : nxt s st 1 = 48 := nxt_txt (k := 1) h (by decide)
  have h2 : nxt s st 2 = 44 := nxt_txt (k := 2) h (by decide)
  have h3 : nxt s st 3 = 125 := nxt_txt (k := 3) h (by decide)
  have h4 : nxt s st 4 = 63 := nxt_txt (k := 4) h (by decide)
  unfold repeatP repTop bounds high must digit
  simp [nxt_bump, bump_bump, ok_bump, hok, h0, h1, h2, h3, h4]
end Go.Proofs.Ytfblkahjefdmaaa.RX
