/- Plain law: a matcher's ways, as functions on lists; what a try comes to, whatever was seen ahead of it. No program in sight. -/
import Derived.Test.YtfblkahjefdmaaaPgF
namespace Go.Proofs.Ytfblkahjefdmaaa.MX
open PG (Inst)

/-- Does a number lie in one of a row's ranges? -/
def lies (r : Int) : List Int → Bool
  | a :: b :: s => (decide (a ≤ r) && decide (r ≤ b)) || lies r s
  | _ => false
def isIn (fold : Bool) (r : Int) (x : Inst) : Bool := (lies r x.set || (fold && (lies (RX.upper r) x.set || lies (RX.lower r) x.set))) != x.neg

/-- What an instruction does at a place. -/
inductive Act
  | done
  | fail
  | to (pc at_ : Nat)
  | save (x : Nat)
  | split (p q : Nat)
/-- Is the sign at a place of an instruction's set? -/
def hits (fold : Bool) (s : List Int) (at_ : Nat) (x : Inst) : Bool := match s[at_]? with
  | some r => isIn fold r x
  | none => false
def act (prog : List Inst) (fold : Bool) (s : List Int) (pc at_ : Nat) : Act :=
  match prog[pc]? with
  | none => .done
  | some x =>
    if x.op = 0 then (if hits fold s at_ x = true then .to (pc + 1) (at_ + 1) else .fail)
    else if x.op = 1 then (if at_ = 0 then .to (pc + 1) at_ else .fail)
    else if x.op = 2 then (if at_ = s.length then .to (pc + 1) at_ else .fail)
    else if x.op = 3 then .save x.x.toNat
    else if x.op = 4 then .split x.x.toNat x.y.toNat
    else if x.op = 5 then .to x.x.toNat at_
    else .done

/-- A set of states. -/
abbrev Seen := Nat → Nat → Bool
def mark (S : Seen) (pc at_ : Nat) : Seen := fun p a => if p = pc ∧ a = at_ then true else S p a
theorem mark_here (S : Seen) (pc at_ : Nat) : mark S pc at_ pc at_ = true := by unfold mark; simp
theorem mark_le {S : Seen} {pc at_ p a : Nat} (h : S p a = true) : mark S pc at_ p a = true := by unfold mark; split <;> simp_all
theorem mark_old {S : Seen} {pc at_ p a : Nat} (h : mark S pc at_ p a = true) : (p = pc ∧ a = at_) ∨ S p a = true := by
  unfold mark at h; split at h
  · rename_i h1; exact .inl h1
  · exact .inr h
/-- The set, as a row of m times so many cells. -/
def seenL (m n : Nat) (S : Seen) : List Bool := (List.range (m * n)).map fun k => S (k / n) (k % n)
theorem seenL_len (m n : Nat) (S : Seen) : (seenL m n S).length = m * n := by simp [seenL]
theorem key_lt {m n pc at_ : Nat} (hp : pc < m) (ha : at_ < n) : pc * n + at_ < m * n := by
  have h1 : (pc + 1) * n ≤ m * n := Nat.mul_le_mul_right n hp
  rw [Nat.add_mul, Nat.one_mul] at h1; omega
theorem key_div {n pc at_ : Nat} (ha : at_ < n) : (pc * n + at_) / n = pc ∧ (pc * n + at_) % n = at_ := by
  have hn : 0 < n := by omega
  constructor
  · rw [Nat.add_comm, Nat.add_mul_div_right _ _ hn, Nat.div_eq_of_lt ha]; omega
  · rw [Nat.add_comm, Nat.add_mul_mod_self_right, Nat.mod_eq_of_lt ha]
theorem seenL_at {m n pc at_ : Nat} (S : Seen) (hp : pc < m) (ha : at_ < n) : (seenL m n S)[pc * n + at_]? = some (S pc at_) := by
  unfold seenL
  rw [List.getElem?_map, List.getElem?_range (key_lt hp ha), Option.map_some, (key_div ha).1, (key_div ha).2]
theorem seenL_mark {m n pc at_ : Nat} (S : Seen) (hp : pc < m) (ha : at_ < n) : (seenL m n S).set (pc * n + at_) true = seenL m n (mark S pc at_) := by
  apply List.ext_getElem?
  intro k
  rw [List.getElem?_set]
  have hlen := seenL_len m n S
  by_cases hk : pc * n + at_ = k
  · subst hk
    rw [if_pos rfl, if_pos (by rw [hlen]; exact key_lt hp ha), seenL_at _ hp ha, mark_here]
  · rw [if_neg hk]
    unfold seenL
    rw [List.getElem?_map, List.getElem?_map]
    rcases Nat.lt_or_ge k (m * n) with h | h
    · rw [List.getElem?_range h, Option.map_some, Option.map_some]
      congr 1
      unfold mark
      rw [if_neg]
      rintro ⟨h1, h2⟩
      apply hk
      rw [← h1, ← h2]
      exact Nat.div_add_mod' k n
    · rw [List.getElem?_eq_none (by simpa using h)]; rfl
/-- How many states are not in the set. -/
def unseen (m n : Nat) (S : Seen) : Nat := (seenL m n S).countP (fun b => !b)
theorem unseen_mark {m n pc at_ : Nat} {S : Seen} (hp : pc < m) (ha : at_ < n) (h : S pc at_ = false) : unseen m n (mark S pc at_) + 1 = unseen m n S := by
  unfold unseen
  rw [← seenL_mark S hp ha]
  have hk : pc * n + at_ < (seenL m n S).length := by rw [seenL_len]; exact key_lt hp ha
  have hg : (seenL m n S)[pc * n + at_] = false := by
    have := seenL_at S hp ha
    rw [List.getElem?_eq_getElem hk] at this
    rw [Option.some.inj this, h]
  rw [List.countP_set hk, hg]
  have hpos : 0 < (seenL m n S).countP (fun b => !b) := List.countP_pos_iff.2 ⟨false, by rw [← hg]; exact List.getElem_mem hk, rfl⟩
  simp
  omega

/-- What a try from a state comes to. -/
inductive Exp (A : Nat → Nat → Act) : Seen → Nat → Nat → List Int → Seen → Option (List Int) → Prop
  | old (S : Seen) (pc at_ : Nat) (nt : List Int) : S pc at_ = true → Exp A S pc at_ nt S none
  | done (S : Seen) (pc at_ : Nat) (nt : List Int) : S pc at_ = false → A pc at_ = .done → Exp A S pc at_ nt (mark S pc at_) (some nt)
  | fail (S : Seen) (pc at_ : Nat) (nt : List Int) : S pc at_ = false → A pc at_ = .fail → Exp A S pc at_ nt (mark S pc at_) none
  | to (S S' : Seen) (pc at_ p a : Nat) (nt : List Int) (r : Option (List Int)) : S pc at_ = false → A pc at_ = .to p a → Exp A (mark S pc at_) p a nt S' r → Exp A S pc at_ nt S' r
  | save (S S' : Seen) (pc at_ x : Nat) (nt : List Int) (r : Option (List Int)) : S pc at_ = false → A pc at_ = .save x → Exp A (mark S pc at_) (pc + 1) at_ (nt.set x at_) S' r → Exp A S pc at_ nt S' r
  | here (S S' : Seen) (pc at_ p q : Nat) (nt r : List Int) : S pc at_ = false → A pc at_ = .split p q → Exp A (mark S pc at_) p at_ nt S' (some r) → Exp A S pc at_ nt S' (some r)
  | there (S S' S'' : Seen) (pc at_ p q : Nat) (nt : List Int) (r : Option (List Int)) : S pc at_ = false → A pc at_ = .split p q → Exp A (mark S pc at_) p at_ nt S' none → Exp A S' q at_ nt S'' r → Exp A S pc at_ nt S'' r

/-- All ways lead to states: fewer than m instructions, places below n. -/
def Valid (A : Nat → Nat → Act) (m n : Nat) : Prop := ∀ pc at_, pc < m → at_ < n → match A pc at_ with
  | .done => True
  | .fail => True
  | .to p a => p < m ∧ a < n
  | .save _ => pc + 1 < m
  | .split p q => p < m ∧ q < m
theorem exp_total {A : Nat → Nat → Act} {m n : Nat} (hA : Valid A m n) : ∀ (N : Nat) (S : Seen) (pc at_ : Nat) (nt : List Int), unseen m n S ≤ N → pc < m → at_ < n → ∃ S' r, Exp A S pc at_ nt S' r ∧ unseen m n S' ≤ unseen m n S := by
  intro N
  induction N with
  | zero =>
    intro S pc at_ nt hN hp ha
    rcases h : S pc at_ with _ | _
    · have := unseen_mark hp ha h; omega
    · exact ⟨S, none, .old _ _ _ _ h, Nat.le_refl _⟩
  | succ N ih =>
    intro S pc at_ nt hN hp ha
    rcases h : S pc at_ with _ | _
    · have hm := unseen_mark hp ha h
      have hv := hA pc at_ hp ha
      rcases hact : A pc at_ with _ | _ | ⟨p, a⟩ | x | ⟨p, q⟩
      · exact ⟨_, _, .done _ _ _ _ h hact, by omega⟩
      · exact ⟨_, _, .fail _ _ _ _ h hact, by omega⟩
      · rw [hact] at hv
        obtain ⟨S', r, h1, h2⟩ := ih (mark S pc at_) p a nt (by omega) hv.1 hv.2
        exact ⟨S', r, .to _ _ _ _ _ _ _ _ h hact h1, by omega⟩
      · rw [hact] at hv
        obtain ⟨S', r, h1, h2⟩ := ih (mark S pc at_) (pc + 1) at_ (nt.set x at_) (by omega) hv ha
        exact ⟨S', r, .save _ _ _ _ _ _ _ h hact h1, by omega⟩
      · rw [hact] at hv
        obtain ⟨S', r, h1, h2⟩ := ih (mark S pc at_) p at_ nt (by omega) hv.1 ha
        cases r with
        | some r => exact ⟨S', some r, .here _ _ _ _ _ _ _ _ h hact h1, by omega⟩
        | none =>
          obtain ⟨S'', r, h3, h4⟩ := ih S' q at_ nt (by omega) hv.2 ha
          exact ⟨S'', r, .there _ _ _ _ _ _ _ _ _ h hact h1 h3, by omega⟩
    · exact ⟨S, none, .old _ _ _ _ h, Nat.le_refl _⟩
/-- There is one answer. -/
theorem exp_one {A : Nat → Nat → Act} {S S1 : Seen} {pc at_ : Nat} {nt : List Int} {r1 : Option (List Int)} (h : Exp A S pc at_ nt S1 r1) : ∀ {S2 : Seen} {r2 : Option (List Int)}, Exp A S pc at_ nt S2 r2 → S1 = S2 ∧ r1 = r2 := by
  induction h with
  | old S pc at_ nt h => intro S2 r2 h2; cases h2 <;> first | exact ⟨rfl, rfl⟩ | simp_all
  | done S pc at_ nt h h1 => intro S2 r2 h2; cases h2 <;> first | exact ⟨rfl, rfl⟩ | simp_all
  | fail S pc at_ nt h h1 => intro S2 r2 h2; cases h2 <;> first | exact ⟨rfl, rfl⟩ | simp_all
  | to S S' pc at_ p a nt r h h1 h3 ih =>
    intro S2 r2 h2
    cases h2 with
    | to _ _ _ _ p' a' _ _ h' h1' h3' => rw [h1] at h1'; injection h1' with e1 e2; subst e1 e2; exact ih h3'
    | _ => simp_all
  | save S S' pc at_ x nt r h h1 h3 ih =>
    intro S2 r2 h2
    cases h2 with
    | save _ _ _ _ x' _ _ h' h1' h3' => rw [h1] at h1'; injection h1' with e1; subst e1; exact ih h3'
    | _ => simp_all
  | here S S' pc at_ p q nt r h h1 h3 ih =>
    intro S2 r2 h2
    cases h2 with
    | here _ _ _ _ p' q' _ _ h' h1' h3' => rw [h1] at h1'; injection h1' with e1 e2; subst e1 e2; exact ih h3'
    | there _ _ _ _ _ p' q' _ _ h' h1' h3' h4' => rw [h1] at h1'; injection h1' with e1 e2; subst e1 e2; cases (ih h3').2
    | _ => simp_all
  | there S S' S'' pc at_ p q nt r h h1 h3 h4 ih ih2 =>
    intro S2 r2 h2
    cases h2 with
    | here _ _ _ _ p' q' _ _ h' h1' h3' => rw [h1] at h1'; injection h1' with e1 e2; subst e1 e2; cases (ih h3').2
    | there _ _ _ _ _ p' q' _ _ h' h1' h3' h4' =>
      rw [h1] at h1'; injection h1' with e1 e2; subst e1 e2
      obtain ⟨e, -⟩ := ih h3'
      subst e
      exact ih2 h4'
    | _ => simp_all

/-- From none of these states a way leads to the end. -/
def Dead (A : Nat → Nat → Act) (D : Nat → Nat → Prop) : Prop := ∀ pc at_, D pc at_ → match A pc at_ with
  | .done => False
  | .fail => True
  | .to p a => D p a
  | .save _ => D (pc + 1) at_
  | .split p q => D p at_ ∧ D q at_
theorem dead_none {A : Nat → Nat → Act} {D : Nat → Nat → Prop} (hD : Dead A D) {S S' : Seen} {pc at_ : Nat} {nt : List Int} {r : Option (List Int)} (h : Exp A S pc at_ nt S' r) : D pc at_ → r = none ∧ ∀ p a, ¬ D p a → S' p a = S p a := by
  have hmk : ∀ {S : Seen} {pc at_ p a : Nat}, D pc at_ → ¬ D p a → mark S pc at_ p a = S p a := by
    intro S pc at_ p a h1 h2
    unfold mark
    rw [if_neg]
    rintro ⟨rfl, rfl⟩
    exact h2 h1
  induction h with
  | old S pc at_ nt h => exact fun _ => ⟨rfl, fun _ _ _ => rfl⟩
  | done S pc at_ nt h h1 => intro hd; have := hD _ _ hd; rw [h1] at this; exact this.elim
  | fail S pc at_ nt h h1 => exact fun hd => ⟨rfl, fun p a hn => hmk hd hn⟩
  | to S S' pc at_ p a nt r h h1 h3 ih =>
    intro hd
    have := hD _ _ hd
    rw [h1] at this
    have h4 := ih this
    exact ⟨h4.1, fun p a hn => (h4.2 p a hn).trans (hmk hd hn)⟩
  | save S S' pc at_ x nt r h h1 h3 ih =>
    intro hd
    have := hD _ _ hd
    rw [h1] at this
    have h4 := ih this
    exact ⟨h4.1, fun p a hn => (h4.2 p a hn).trans (hmk hd hn)⟩
  | here S S' pc at_ p q nt r h h1 h3 ih =>
    intro hd
    have := hD _ _ hd
    rw [h1] at this
    cases (ih this.1).1
  | there S S' S'' pc at_ p q nt r h h1 h3 h4 ih ih2 =>
    intro hd
    have := hD _ _ hd
    rw [h1] at this
    have h5 := ih this.1
    have h6 := ih2 this.2
    exact ⟨h6.1, fun p a hn => (h6.2 p a hn).trans ((h5.2 p a hn).trans (hmk hd hn))⟩
/-- What was seen among dead states tells nothing. -/
theorem exp_dead {A : Nat → Nat → Act} {m n : Nat} (hA : Valid A m n) {D : Nat → Nat → Prop} (hD : Dead A D) {S S1 : Seen} {pc at_ : Nat} {nt : List Int} {r : Option (List Int)} (h : Exp A S pc at_ nt S1 r) :
    ∀ T : Seen, (∀ p a, ¬ D p a → T p a = S p a) → pc < m → at_ < n → ∃ T1, Exp A T pc at_ nt T1 r ∧ ∀ p a, ¬ D p a → T1 p a = S1 p a := by
  have hmk : ∀ {S T : Seen} {pc at_ : Nat}, (∀ p a, ¬ D p a → T p a = S p a) → ∀ p a, ¬ D p a → mark T pc at_ p a = mark S pc at_ p a := by
    intro S T pc at_ h p a hn
    unfold mark
    split
    · rfl
    · exact h p a hn
  have hdd : ∀ {S S1 : Seen} {pc at_ : Nat} {nt : List Int} {r : Option (List Int)}, Exp A S pc at_ nt S1 r → D pc at_ → ∀ T : Seen, (∀ p a, ¬ D p a → T p a = S p a) → pc < m → at_ < n → ∃ T1, Exp A T pc at_ nt T1 r ∧ ∀ p a, ¬ D p a → T1 p a = S1 p a := by
    intro S S1 pc at_ nt r h hd T hT hp ha
    obtain ⟨T1, r1, h1, -⟩ := exp_total hA _ T pc at_ nt (Nat.le_refl _) hp ha
    have h2 := dead_none hD h hd
    have h3 := dead_none hD h1 hd
    rw [h3.1, ← h2.1] at h1
    exact ⟨T1, h1, fun p a hn => (h3.2 p a hn).trans ((hT p a hn).trans (h2.2 p a hn).symm)⟩
  induction h with
  | old S pc at_ nt h =>
    intro T hT hp ha
    by_cases hd : D pc at_
    · exact hdd (.old S pc at_ nt h) hd T hT hp ha
    · exact ⟨T, .old _ _ _ _ ((hT _ _ hd).trans h), hT⟩
  | done S pc at_ nt h h1 =>
    intro T hT hp ha
    by_cases hd : D pc at_
    · exact hdd (.done S pc at_ nt h h1) hd T hT hp ha
    · exact ⟨_, .done _ _ _ _ ((hT _ _ hd).trans h) h1, hmk hT⟩
  | fail S pc at_ nt h h1 =>
    intro T hT hp ha
    by_cases hd : D pc at_
    · exact hdd (.fail S pc at_ nt h h1) hd T hT hp ha
    · exact ⟨_, .fail _ _ _ _ ((hT _ _ hd).trans h) h1, hmk hT⟩
  | to S S' pc at_ p a nt r h h1 h3 ih =>
    intro T hT hp ha
    by_cases hd : D pc at_
    · exact hdd (.to _ _ _ _ _ _ _ _ h h1 h3) hd T hT hp ha
    · have hv := hA pc at_ hp ha
      rw [h1] at hv
      obtain ⟨T1, h4, h5⟩ := ih (mark T pc at_) (hmk hT) hv.1 hv.2
      exact ⟨T1, .to _ _ _ _ _ _ _ _ ((hT _ _ hd).trans h) h1 h4, h5⟩
  | save S S' pc at_ x nt r h h1 h3 ih =>
    intro T hT hp ha
    by_cases hd : D pc at_
    · exact hdd (.save _ _ _ _ _ _ _ h h1 h3) hd T hT hp ha
    · have hv := hA pc at_ hp ha
      rw [h1] at hv
      obtain ⟨T1, h4, h5⟩ := ih (mark T pc at_) (hmk hT) hv ha
      exact ⟨T1, .save _ _ _ _ _ _ _ ((hT _ _ hd).trans h) h1 h4, h5⟩
  | here S S' pc at_ p q nt r h h1 h3 ih =>
    intro T hT hp ha
    by_cases hd : D pc at_
    · exact hdd (.here _ _ _ _ _ _ _ _ h h1 h3) hd T hT hp ha
    · have hv := hA pc at_ hp ha
      rw [h1] at hv
      obtain ⟨T1, h4, h5⟩ := ih (mark T pc at_) (hmk hT) hv.1 ha
      exact ⟨T1, .here _ _ _ _ _ _ _ _ ((hT _ _ hd).trans h) h1 h4, h5⟩
  | there S S' S'' pc at_ p q nt r h h1 h3 h4 ih ih2 =>
    intro T hT hp ha
    by_cases hd : D pc at_
    · exact hdd (.there _ _ _ _ _ _ _ _ _ h h1 h3 h4) hd T hT hp ha
    · have hv := hA pc at_ hp ha
      rw [h1] at hv
      obtain ⟨T1, h5, h6⟩ := ih (mark T pc at_) (hmk hT) hv.1 ha
      obtain ⟨T2, h7, h8⟩ := ih2 T1 h6 hv.2 ha
      exact ⟨T2, .there _ _ _ _ _ _ _ _ _ ((hT _ _ hd).trans h) h1 h5 h7, h8⟩

/-- What a state's ways lead to is in the set. -/
def Led (A : Nat → Nat → Act) (S : Seen) (pc at_ : Nat) : Prop := match A pc at_ with
  | .done => False
  | .fail => True
  | .to p a => S p a = true
  | .save _ => S (pc + 1) at_ = true
  | .split p q => S p at_ = true ∧ S q at_ = true
theorem Led.mono {A : Nat → Nat → Act} {S S' : Seen} {pc at_ : Nat} (h : Led A S pc at_) (hs : ∀ p a, S p a = true → S' p a = true) : Led A S' pc at_ := by
  unfold Led at h ⊢
  split at h
  · exact h.elim
  · trivial
  · exact hs _ _ h
  · exact hs _ _ h
  · exact ⟨hs _ _ h.1, hs _ _ h.2⟩
/-- A try that failed has seen all that its state leads to. -/
theorem exp_led {A : Nat → Nat → Act} {S S1 : Seen} {pc at_ : Nat} {nt : List Int} {r : Option (List Int)} (h : Exp A S pc at_ nt S1 r) :
    r = none → S1 pc at_ = true ∧ (∀ p a, S p a = true → S1 p a = true) ∧ ∀ p a, S1 p a = true → S p a = true ∨ Led A S1 p a := by
  induction h with
  | old S pc at_ nt h => exact fun _ => ⟨h, fun _ _ h => h, fun _ _ h => .inl h⟩
  | done S pc at_ nt h h1 => intro h; cases h
  | fail S pc at_ nt h h1 =>
    refine fun _ => ⟨mark_here _ _ _, fun _ _ h => mark_le h, fun p a h2 => ?_⟩
    rcases mark_old h2 with ⟨rfl, rfl⟩ | h2
    · exact .inr (by unfold Led; rw [h1]; trivial)
    · exact .inl h2
  | to S S' pc at_ p a nt r h h1 h3 ih =>
    intro hr
    obtain ⟨i1, i2, i3⟩ := ih hr
    refine ⟨i2 _ _ (mark_here _ _ _), fun _ _ h => i2 _ _ (mark_le h), fun p' a' h2 => ?_⟩
    rcases i3 _ _ h2 with h2 | h2
    · rcases mark_old h2 with ⟨rfl, rfl⟩ | h2
      · exact .inr (by unfold Led; rw [h1]; exact i1)
      · exact .inl h2
    · exact .inr h2
  | save S S' pc at_ x nt r h h1 h3 ih =>
    intro hr
    obtain ⟨i1, i2, i3⟩ := ih hr
    refine ⟨i2 _ _ (mark_here _ _ _), fun _ _ h => i2 _ _ (mark_le h), fun p' a' h2 => ?_⟩
    rcases i3 _ _ h2 with h2 | h2
    · rcases mark_old h2 with ⟨rfl, rfl⟩ | h2
      · exact .inr (by unfold Led; rw [h1]; exact i1)
      · exact .inl h2
    · exact .inr h2
  | here S S' pc at_ p q nt r h h1 h3 ih => intro h; cases h
  | there S S' S'' pc at_ p q nt r h h1 h3 h4 ih ih2 =>
    intro hr
    obtain ⟨i1, i2, i3⟩ := ih rfl
    obtain ⟨j1, j2, j3⟩ := ih2 hr
    refine ⟨j2 _ _ (i2 _ _ (mark_here _ _ _)), fun _ _ h => j2 _ _ (i2 _ _ (mark_le h)), fun p' a' h2 => ?_⟩
    rcases j3 _ _ h2 with h2 | h2
    · rcases i3 _ _ h2 with h2 | h2
      · rcases mark_old h2 with ⟨rfl, rfl⟩ | h2
        · exact .inr (by unfold Led; rw [h1]; exact ⟨j2 _ _ i1, j1⟩)
        · exact .inl h2
      · exact .inr (h2.mono j2)
    · exact .inr h2
/-- A set that is led to nothing else, and to no end. -/
def Shut (A : Nat → Nat → Act) (S : Seen) : Prop := ∀ p a, S p a = true → Led A S p a
theorem shut_none (A : Nat → Nat → Act) : Shut A (fun _ _ => false) := by intro p a h; cases h
theorem shut_exp {A : Nat → Nat → Act} {S S1 : Seen} {pc at_ : Nat} {nt : List Int} (h : Exp A S pc at_ nt S1 none) (hs : Shut A S) : Shut A S1 := by
  obtain ⟨h1, h2, h3⟩ := exp_led h rfl
  intro p a hp
  rcases h3 p a hp with h4 | h4
  · exact (hs p a h4).mono h2
  · exact h4
theorem shut_dead {A : Nat → Nat → Act} {S : Seen} (h : Shut A S) : Dead A (fun p a => S p a = true) := by
  intro p a hp
  have := h p a hp
  unfold Led at this
  split at this
  · exact this.elim
  · trivial
  · exact this
  · exact this
  · exact this
/-- A try behind tries that failed comes to what it would come to as the first one. -/
theorem exp_fresh {A : Nat → Nat → Act} {m n : Nat} (hA : Valid A m n) {S S1 : Seen} {pc at_ : Nat} {nt : List Int} {r : Option (List Int)} (h : Exp A S pc at_ nt S1 r) (hs : Shut A S) (hp : pc < m) (ha : at_ < n) :
    ∃ T1, Exp A (fun _ _ => false) pc at_ nt T1 r := by
  obtain ⟨T1, h1, -⟩ := exp_dead hA (shut_dead hs) h (fun _ _ => false) (fun p a hn => by
    have hn : ¬ S p a = true := hn
    rcases h : S p a with _ | _
    · rfl
    · exact absurd h hn) hp ha
  exact ⟨T1, h1⟩
end Go.Proofs.Ytfblkahjefdmaaa.MX
