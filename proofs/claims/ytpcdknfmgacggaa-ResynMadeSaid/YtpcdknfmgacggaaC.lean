/- For ResynMadeS: what the texts XMxP XMxM XMxF XMxQ XMxK XMxR of wip/tpl say. -/
import Derived.Test.YtpcdknfmgacggaaA
namespace Go.Proofs.Ytpcdknfmgacggaa
namespace MX
open PG (Inst)
/-- Does a number lie in one of a row's ranges? -/
def lies (r : Int) : List Int → Bool
  | a :: b :: s => (decide (a ≤ r) && decide (r ≤ b)) || lies r s
  | _ => false
def isIn (fold : Bool) (r : Int) (x : Inst) : Bool := (lies r x.set || (fold && (lies (RX.upper r) x.set || lies (RX.lower r) x.set))) != x.neg
/-- What an instruction does at a place. -/
inductive Act
  | done
  | fail
  | to (pc at_ : Nat)
  | save (x : Nat)
  | split (p q : Nat)
/-- Is the sign at a place of an instruction's set? -/
def hits (fold : Bool) (s : List Int) (at_ : Nat) (x : Inst) : Bool := match s[at_]? with
  | some r => isIn fold r x
  | none => false
def act (prog : List Inst) (fold : Bool) (s : List Int) (pc at_ : Nat) : Act :=
  match prog[pc]? with
  | none => .done
  | some x =>
    if x.op = 0 then (if hits fold s at_ x = true then .to (pc + 1) (at_ + 1) else .fail)
    else if x.op = 1 then (if at_ = 0 then .to (pc + 1) at_ else .fail)
    else if x.op = 2 then (if at_ = s.length then .to (pc + 1) at_ else .fail)
    else if x.op = 3 then .save x.x.toNat
    else if x.op = 4 then .split x.x.toNat x.y.toNat
    else if x.op = 5 then .to x.x.toNat at_
    else .done
/-- A set of states. -/
abbrev Seen := Nat → Nat → Bool
def mark (S : Seen) (pc at_ : Nat) : Seen := fun p a => if p = pc ∧ a = at_ then true else S p a
theorem mark_here (S : Seen) (pc at_ : Nat) : mark S pc at_ pc at_ = true := by unfold mark; simp
theorem mark_le {S : Seen} {pc at_ p a : Nat} (h : S p a = true) : mark S pc at_ p a = true := by unfold mark; split <;> simp_all
theorem mark_old {S : Seen} {pc at_ p a : Nat} (h : mark S pc at_ p a = true) : (p = pc ∧ a = at_) ∨ S p a = true := by
  unfold mark at h; split at h
  · rename_i h1; exact .inl h1
  · exact .inr h
/-- The set, as a row of m times so many cells. -/
def seenL (m n : Nat) (S : Seen) : List Bool := (List.range (m * n)).map fun k => S (k / n) (k % n)
theorem seenL_len (m n : Nat) (S : Seen) : (seenL m n S).length = m * n := by simp [seenL]
theorem key_lt {m n pc at_ : Nat} (hp : pc < m) (ha : at_ < n) : pc * n + at_ < m * n := by
  have h1 : (pc + 1) * n ≤ m * n := Nat.mul_le_mul_right n hp
  rw [Nat.add_mul, Nat.one_mul] at h1; omega
theorem key_div {n pc at_ : Nat} (ha : at_ < n) : (pc * n + at_) / n = pc ∧ (pc * n + at_) % n = at_ := by
  have hn : 0 < n := by omega
  constructor
  · rw [Nat.add_comm, Nat.add_mul_div_right _ _ hn, Nat.div_eq_of_lt ha]; omega
  · rw [Nat.add_comm, Nat.add_mul_mod_self_right, Nat.mod_eq_of_lt ha]
theorem seenL_at {m n pc at_ : Nat} (S : Seen) (hp : pc < m) (ha : at_ < n) : (seenL m n S)[pc * n + at_]? = some (S pc at_) := by
  unfold seenL
  rw [List.getElem?_map, List.getElem?_range (key_lt hp ha), Option.map_some, (key_div ha).1, (key_div ha).2]
theorem seenL_mark {m n pc at_ : Nat} (S : Seen) (hp : pc < m) (ha : at_ < n) : (seenL m n S).set (pc * n + at_) true = seenL m n (mark S pc at_) := by
  apply List.ext_getElem?
  intro k
  rw [List.getElem?_set]
  have hlen := seenL_len m n S
  by_cases hk : pc * n + at_ = k
  · subst hk
    rw [if_pos rfl, if_pos (by rw [hlen]; exact key_lt hp ha), seenL_at _ hp ha, mark_here]
  · rw [if_neg hk]
    unfold seenL
    rw [List.getElem?_map, List.getElem?_map]
    rcases Nat.lt_or_ge k (m * n) with h | h
    · rw [List.getElem?_range h, Option.map_some, Option.map_some]
      congr 1
      unfold mark
      rw [if_neg]
      rintro ⟨h1, h2⟩
      apply hk
      rw [← h1, ← h2]
      exact Nat.div_add_mod' k n
    · rw [List.getElem?_eq_none (by simpa using h)]; rfl
/-- How many states are not in the set. -/
def unseen (m n : Nat) (S : Seen) : Nat := (seenL m n S).countP (fun b => !b)
theorem unseen_mark {m n pc at_ : Nat} {S : Seen} (hp : pc < m) (ha : at_ < n) (h : S pc at_ = false) : unseen m n (mark S pc at_) + 1 = unseen m n S := by
  unfold unseen
  rw [← seenL_mark S hp ha]
  have hk : pc * n + at_ < (seenL m n S).length := by rw [seenL_len]; exact key_lt hp ha
  have hg : (seenL m n S)[pc * n + at_] = false := by
    have := seenL_at S hp ha
    rw [List.getElem?_eq_getElem hk] at this
    rw [Option.some.inj this, h]
  rw [List.countP_set hk, hg]
  have hpos : 0 < (seenL m n S).countP (fun b => !b) := List.countP_pos_iff.2 ⟨false, by rw [← hg]; exact List.getElem_mem hk, rfl⟩
  simp
  omega
/-- What a try from a state comes to. -/
inductive Exp (A : Nat → Nat → Act) : Seen → Nat → Nat → List Int → Seen → Option (List Int) → Prop
  | old (S : Seen) (pc at_ : Nat) (nt : List Int) : S pc at_ = true → Exp A S pc at_ nt S none
  | done (S : Seen) (pc at_ : Nat) (nt : List Int) : S pc at_ = false → A pc at_ = .done → Exp A S pc at_ nt (mark S pc at_) (some nt)
  | fail (S : Seen) (pc at_ : Nat) (nt : List Int) : S pc at_ = false → A pc at_ = .fail → Exp A S pc at_ nt (mark S pc at_) none
  | to (S S' : Seen) (pc at_ p a : Nat) (nt : List Int) (r : Option (List Int)) : S pc at_ = false → A pc at_ = .to p a → Exp A (mark S pc at_) p a nt S' r → Exp A S pc at_ nt S' r
  | save (S S' : Seen) (pc at_ x : Nat) (nt : List Int) (r : Option (List Int)) : S pc at_ = false → A pc at_ = .save x → Exp A (mark S pc at_) (pc + 1) at_ (nt.set x at_) S' r → Exp A S pc at_ nt S' r
  | here (S S' : Seen) (pc at_ p q : Nat) (nt r : List Int) : S pc at_ = false → A pc at_ = .split p q → Exp A (mark S pc at_) p at_ nt S' (some r) → Exp A S pc at_ nt S' (some r)
  | there (S S' S'' : Seen) (pc at_ p q : Nat) (nt : List Int) (r : Option (List Int)) : S pc at_ = false → A pc at_ = .split p q → Exp A (mark S pc at_) p at_ nt S' none → Exp A S' q at_ nt S'' r → Exp A S pc at_ nt S'' r
/-- All ways lead to states: fewer than m instructions, places below n. -/
def Valid (A : Nat → Nat → Act) (m n : Nat) : Prop := ∀ pc at_, pc < m → at_ < n → match A pc at_ with
  | .done => True
  | .fail => True
  | .to p a => p < m ∧ a < n
  | .save _ => pc + 1 < m
  | .split p q => p < m ∧ q < m
theorem exp_total {A : Nat → Nat → Act} {m n : Nat} (hA : Valid A m n) : ∀ (N : Nat) (S : Seen) (pc at_ : Nat) (nt : List Int), unseen m n S ≤ N → pc < m → at_ < n → ∃ S' r, Exp A S pc at_ nt S' r ∧ unseen m n S' ≤ unseen m n S := by
  intro N
  induction N with
  | zero =>
    intro S pc at_ nt hN hp ha
    rcases h : S pc at_ with _ | _
    · have := unseen_mark hp ha h; omega
    · exact ⟨S, none, .old _ _ _ _ h, Nat.le_refl _⟩
  | succ N ih =>
    intro S pc at_ nt hN hp ha
    rcases h : S pc at_ with _ | _
    · have hm := unseen_mark hp ha h
      have hv := hA pc at_ hp ha
      rcases hact : A pc at_ with _ | _ | ⟨p, a⟩ | x | ⟨p, q⟩
      · exact ⟨_, _, .done _ _ _ _ h hact, by omega⟩
      · exact ⟨_, _, .fail _ _ _ _ h hact, by omega⟩
      · rw [hact] at hv
        obtain ⟨S', r, h1, h2⟩ := ih (mark S pc at_) p a nt (by omega) hv.1 hv.2
        exact ⟨S', r, .to _ _ _ _ _ _ _ _ h hact h1, by omega⟩
      · rw [hact] at hv
        obtain ⟨S', r, h1, h2⟩ := ih (mark S pc at_) (pc + 1) at_ (nt.set x at_) (by omega) hv ha
        exact ⟨S', r, .save _ _ _ _ _ _ _ h hact h1, by omega⟩
      · rw [hact] at hv
        obtain ⟨S', r, h1, h2⟩ := ih (mark S pc at_) p at_ nt (by omega) hv.1 ha
        cases r with
        | some r => exact ⟨S', some r, .here _ _ _ _ _ _ _ _ h hact h1, by omega⟩
        | none =>
          obtain ⟨S'', r, h3, h4⟩ := ih S' q at_ nt (by omega) hv.2 ha
          exact ⟨S'', r, .there _ _ _ _ _ _ _ _ _ h hact h1 h3, by omega⟩
    · exact ⟨S, none, .old _ _ _ _ h, Nat.le_refl _⟩
/-- There is one answer. -/
theorem exp_one {A : Nat → Nat → Act} {S S1 : Seen} {pc at_ : Nat} {nt : List Int} {r1 : Option (List Int)} (h : Exp A S pc at_ nt S1 r1) : ∀ {S2 : Seen} {r2 : Option (List Int)}, Exp A S pc at_ nt S2 r2 → S1 = S2 ∧ r1 = r2 := by
  induction h with
  | old S pc at_ nt h => intro S2 r2 h2; cases h2 <;> first | exact ⟨rfl, rfl⟩ | simp_all
  | done S pc at_ nt h h1 => intro S2 r2 h2; cases h2 <;> first | exact ⟨rfl, rfl⟩ | simp_all
  | fail S pc at_ nt h h1 => intro S2 r2 h2; cases h2 <;> first | exact ⟨rfl, rfl⟩ | simp_all
  | to S S' pc at_ p a nt r h h1 h3 ih =>
    intro S2 r2 h2
    cases h2 with
    | to _ _ _ _ p' a' _ _ h' h1' h3' => rw [h1] at h1'; injection h1' with e1 e2; subst e1 e2; exact ih h3'
    | _ => simp_all
  | save S S' pc at_ x nt r h h1 h3 ih =>
    intro S2 r2 h2
    cases h2 with
    | save _ _ _ _ x' _ _ h' h1' h3' => rw [h1] at h1'; injection h1' with e1; subst e1; exact ih h3'
    | _ => simp_all
  | here S S' pc at_ p q nt r h h1 h3 ih =>
    intro S2 r2 h2
    cases h2 with
    | here _ _ _ _ p' q' _ _ h' h1' h3' => rw [h1] at h1'; injection h1' with e1 e2; subst e1 e2; exact ih h3'
    | there _ _ _ _ _ p' q' _ _ h' h1' h3' h4' => rw [h1] at h1'; injection h1' with e1 e2; subst e1 e2; cases (ih h3').2
    | _ => simp_all
  | there S S' S'' pc at_ p q nt r h h1 h3 h4 ih ih2 =>
    intro S2 r2 h2
    cases h2 with
    | here _ _ _ _ p' q' _ _ h' h1' h3' => rw [h1] at h1'; injection h1' with e1 e2; subst e1 e2; cases (ih h3').2
    | there _ _ _ _ _ p' q' _ _ h' h1' h3' h4' =>
      rw [h1] at h1'; injection h1' with e1 e2; subst e1 e2
      obtain ⟨e, -⟩ := ih h3'
      subst e
      exact ih2 h4'
    | _ => simp_all
/-- From none of these states a way leads to the end. -/
def Dead (A : Nat → Nat → Act) (D : Nat → Nat → Prop) : Prop := ∀ pc at_, D pc at_ → match A pc at_ with
  | .done => False
  | .fail => True
  | .to p a => D p a
  | .save _ => D (pc + 1) at_
  | .split p q => D p at_ ∧ D q at_
theorem dead_none {A : Nat → Nat → Act} {D : Nat → Nat → Prop} (hD : Dead A D) {S S' : Seen} {pc at_ : Nat} {nt : List Int} {r : Option (List Int)} (h : Exp A S pc at_ nt S' r) : D pc at_ → r = none ∧ ∀ p a, ¬ D p a → S' p a = S p a := by
  have hmk : ∀ {S : Seen} {pc at_ p a : Nat}, D pc at_ → ¬ D p a → mark S pc at_ p a = S p a := by
    intro S pc at_ p a h1 h2
    unfold mark
    rw [if_neg]
    rintro ⟨rfl, rfl⟩
    exact h2 h1
  induction h with
  | old S pc at_ nt h => exact fun _ => ⟨rfl, fun _ _ _ => rfl⟩
  | done S pc at_ nt h h1 => intro hd; have := hD _ _ hd; rw [h1] at this; exact this.elim
  | fail S pc at_ nt h h1 => exact fun hd => ⟨rfl, fun p a hn => hmk hd hn⟩
  | to S S' pc at_ p a nt r h h1 h3 ih =>
    intro hd
    have := hD _ _ hd
    rw [h1] at this
    have h4 := ih this
    exact ⟨h4.1, fun p a hn => (h4.2 p a hn).trans (hmk hd hn)⟩
  | save S S' pc at_ x nt r h h1 h3 ih =>
    intro hd
    have := hD _ _ hd
    rw [h1] at this
    have h4 := ih this
    exact ⟨h4.1, fun p a hn => (h4.2 p a hn).trans (hmk hd hn)⟩
  | here S S' pc at_ p q nt r h h1 h3 ih =>
    intro hd
    have := hD _ _ hd
    rw [h1] at this
    cases (ih this.1).1
  | there S S' S'' pc at_ p q nt r h h1 h3 h4 ih ih2 =>
    intro hd
    have := hD _ _ hd
    rw [h1] at this
    have h5 := ih this.1
    have h6 := ih2 this.2
    exact ⟨h6.1, fun p a hn => (h6.2 p a hn).trans ((h5.2 p a hn).trans (hmk hd hn))⟩
/-- What was seen among dead states tells nothing. -/
theorem exp_dead {A : Nat → Nat → Act} {m n : Nat} (hA : Valid A m n) {D : Nat → Nat → Prop} (hD : Dead A D) {S S1 : Seen} {pc at_ : Nat} {nt : List Int} {r : Option (List Int)} (h : Exp A S pc at_ nt S1 r) :
    ∀ T : Seen, (∀ p a, ¬ D p a → T p a = S p a) → pc < m → at_ < n → ∃ T1, Exp A T pc at_ nt T1 r ∧ ∀ p a, ¬ D p a → T1 p a = S1 p a := by
  have hmk : ∀ {S T : Seen} {pc at_ : Nat}, (∀ p a, ¬ D p a → T p a = S p a) → ∀ p a, ¬ D p a → mark T pc at_ p a = mark S pc at_ p a := by
    intro S T pc at_ h p a hn
    unfold mark
    split
    · rfl
    · exact h p a hn
  have hdd : ∀ {S S1 : Seen} {pc at_ : Nat} {nt : List Int} {r : Option (List Int)}, Exp A S pc at_ nt S1 r → D pc at_ → ∀ T : Seen, (∀ p a, ¬ D p a → T p a = S p a) → pc < m → at_ < n → ∃ T1, Exp A T pc at_ nt T1 r ∧ ∀ p a, ¬ D p a → T1 p a = S1 p a := by
    intro S S1 pc at_ nt r h hd T hT hp ha
    obtain ⟨T1, r1, h1, -⟩ := exp_total hA _ T pc at_ nt (Nat.le_refl _) hp ha
    have h2 := dead_none hD h hd
    have h3 := dead_none hD h1 hd
    rw [h3.1, ← h2.1] at h1
    exact ⟨T1, h1, fun p a hn => (h3.2 p a hn).trans ((hT p a hn).trans (h2.2 p a hn).symm)⟩
  induction h with
  | old S pc at_ nt h =>
    intro T hT hp ha
    by_cases hd : D pc at_
    · exact hdd (.old S pc at_ nt h) hd T hT hp ha
    · exact ⟨T, .old _ _ _ _ ((hT _ _ hd).trans h), hT⟩
  | done S pc at_ nt h h1 =>
    intro T hT hp ha
    by_cases hd : D pc at_
    · exact hdd (.done S pc at_ nt h h1) hd T hT hp ha
    · exact ⟨_, .done _ _ _ _ ((hT _ _ hd).trans h) h1, hmk hT⟩
  | fail S pc at_ nt h h1 =>
    intro T hT hp ha
    by_cases hd : D pc at_
    · exact hdd (.fail S pc at_ nt h h1) hd T hT hp ha
    · exact ⟨_, .fail _ _ _ _ ((hT _ _ hd).trans h) h1, hmk hT⟩
  | to S S' pc at_ p a nt r h h1 h3 ih =>
    intro T hT hp ha
    by_cases hd : D pc at_
    · exact hdd (.to _ _ _ _ _ _ _ _ h h1 h3) hd T hT hp ha
    · have hv := hA pc at_ hp ha
      rw [h1] at hv
      obtain ⟨T1, h4, h5⟩ := ih (mark T pc at_) (hmk hT) hv.1 hv.2
      exact ⟨T1, .to _ _ _ _ _ _ _ _ ((hT _ _ hd).trans h) h1 h4, h5⟩
  | save S S' pc at_ x nt r h h1 h3 ih =>
    intro T hT hp ha
    by_cases hd : D pc at_
    · exact hdd (.save _ _ _ _ _ _ _ h h1 h3) hd T hT hp ha
    · have hv := hA pc at_ hp ha
      rw [h1] at hv
      obtain ⟨T1, h4, h5⟩ := ih (mark T pc at_) (hmk hT) hv ha
      exact ⟨T1, .save _ _ _ _ _ _ _ ((hT _ _ hd).trans h) h1 h4, h5⟩
  | here S S' pc at_ p q nt r h h1 h3 ih =>
    intro T hT hp ha
    by_cases hd : D pc at_
    · exact hdd (.here _ _ _ _ _ _ _ _ h h1 h3) hd T hT hp ha
    · have hv := hA pc at_ hp ha
      rw [h1] at hv
      obtain ⟨T1, h4, h5⟩ := ih (mark T pc at_) (hmk hT) hv.1 ha
      exact ⟨T1, .here _ _ _ _ _ _ _ _ ((hT _ _ hd).trans h) h1 h4, h5⟩
  | there S S' S'' pc at_ p q nt r h h1 h3 h4 ih ih2 =>
    intro T hT hp ha
    by_cases hd : D pc at_
    · exact hdd (.there _ _ _ _ _ _ _ _ _ h h1 h3 h4) hd T hT hp ha
    · have hv := hA pc at_ hp ha
      rw [h1] at hv
      obtain ⟨T1, h5, h6⟩ := ih (mark T pc at_) (hmk hT) hv.1 ha
      obtain ⟨T2, h7, h8⟩ := ih2 T1 h6 hv.2 ha
      exact ⟨T2, .there _ _ _ _ _ _ _ _ _ ((hT _ _ hd).trans h) h1 h5 h7, h8⟩
/-- What a state's ways lead to is in the set. -/
def Led (A : Nat → Nat → Act) (S : Seen) (pc at_ : Nat) : Prop := match A pc at_ with
  | .done => False
  | .fail => True
  | .to p a => S p a = true
  | .save _ => S (pc + 1) at_ = true
  | .split p q => S p at_ = true ∧ S q at_ = true
theorem Led.mono {A : Nat → Nat → Act} {S S' : Seen} {pc at_ : Nat} (h : Led A S pc at_) (hs : ∀ p a, S p a = true → S' p a = true) : Led A S' pc at_ := by
  unfold Led at h ⊢
  split at h
  · exact h.elim
  · trivial
  · exact hs _ _ h
  · exact hs _ _ h
  · exact ⟨hs _ _ h.1, hs _ _ h.2⟩
/-- A try that failed has seen all that its state leads to. -/
theorem exp_led {A : Nat → Nat → Act} {S S1 : Seen} {pc at_ : Nat} {nt : List Int} {r : Option (List Int)} (h : Exp A S pc at_ nt S1 r) :
    r = none → S1 pc at_ = true ∧ (∀ p a, S p a = true → S1 p a = true) ∧ ∀ p a, S1 p a = true → S p a = true ∨ Led A S1 p a := by
  induction h with
  | old S pc at_ nt h => exact fun _ => ⟨h, fun _ _ h => h, fun _ _ h => .inl h⟩
  | done S pc at_ nt h h1 => intro h; cases h
  | fail S pc at_ nt h h1 =>
    refine fun _ => ⟨mark_here _ _ _, fun _ _ h => mark_le h, fun p a h2 => ?_⟩
    rcases mark_old h2 with ⟨rfl, rfl⟩ | h2
    · exact .inr (by unfold Led; rw [h1]; trivial)
    · exact .inl h2
  | to S S' pc at_ p a nt r h h1 h3 ih =>
    intro hr
    obtain ⟨i1, i2, i3⟩ := ih hr
    refine ⟨i2 _ _ (mark_here _ _ _), fun _ _ h => i2 _ _ (mark_le h), fun p' a' h2 => ?_⟩
    rcases i3 _ _ h2 with h2 | h2
    · rcases mark_old h2 with ⟨rfl, rfl⟩ | h2
      · exact .inr (by unfold Led; rw [h1]; exact i1)
      · exact .inl h2
    · exact .inr h2
  | save S S' pc at_ x nt r h h1 h3 ih =>
    intro hr
    obtain ⟨i1, i2, i3⟩ := ih hr
    refine ⟨i2 _ _ (mark_here _ _ _), fun _ _ h => i2 _ _ (mark_le h), fun p' a' h2 => ?_⟩
    rcases i3 _ _ h2 with h2 | h2
    · rcases mark_old h2 with ⟨rfl, rfl⟩ | h2
      · exact .inr (by unfold Led; rw [h1]; exact i1)
      · exact .inl h2
    · exact .inr h2
  | here S S' pc at_ p q nt r h h1 h3 ih => intro h; cases h
  | there S S' S'' pc at_ p q nt r h h1 h3 h4 ih ih2 =>
    intro hr
    obtain ⟨i1, i2, i3⟩ := ih rfl
    obtain ⟨j1, j2, j3⟩ := ih2 hr
    refine ⟨j2 _ _ (i2 _ _ (mark_here _ _ _)), fun _ _ h => j2 _ _ (i2 _ _ (mark_le h)), fun p' a' h2 => ?_⟩
    rcases j3 _ _ h2 with h2 | h2
    · rcases i3 _ _ h2 with h2 | h2
      · rcases mark_old h2 with ⟨rfl, rfl⟩ | h2
        · exact .inr (by unfold Led; rw [h1]; exact ⟨j2 _ _ i1, j1⟩)
        · exact .inl h2
      · exact .inr (h2.mono j2)
    · exact .inr h2
/-- A set that is led to nothing else, and to no end. -/
def Shut (A : Nat → Nat → Act) (S : Seen) : Prop := ∀ p a, S p a = true → Led A S p a
theorem shut_none (A : Nat → Nat → Act) : Shut A (fun _ _ => false) := by intro p a h; cases h
theorem shut_exp {A : Nat → Nat → Act} {S S1 : Seen} {pc at_ : Nat} {nt : List Int} (h : Exp A S pc at_ nt S1 none) (hs : Shut A S) : Shut A S1 := by
  obtain ⟨h1, h2, h3⟩ := exp_led h rfl
  intro p a hp
  rcases h3 p a hp with h4 | h4
  · exact (hs p a h4).mono h2
  · exact h4
theorem shut_dead {A : Nat → Nat → Act} {S : Seen} (h : Shut A S) : Dead A (fun p a => S p a = true) := by
  intro p a hp
  have := h p a hp
  unfold Led at this
  split at this
  · exact this.elim
  · trivial
  · exact this
  · exact this
  · exact this
/-- A try behind tries that failed comes to what it would come to as the first one. -/
theorem exp_fresh {A : Nat → Nat → Act} {m n : Nat} (hA : Valid A m n) {S S1 : Seen} {pc at_ : Nat} {nt : List Int} {r : Option (List Int)} (h : Exp A S pc at_ nt S1 r) (hs : Shut A S) (hp : pc < m) (ha : at_ < n) :
    ∃ T1, Exp A (fun _ _ => false) pc at_ nt T1 r := by
  obtain ⟨T1, h1, -⟩ := exp_dead hA (shut_dead hs) h (fun _ _ => false) (fun p a hn => by
    have hn : ¬ S p a = true := hn
    rcases h : S p a with _ | _
    · rfl
    · exact absurd h hn) hp ha
  exact ⟨T1, h1⟩
end MX
namespace MX
/-- What is left: a note as it was; or a state. -/
inductive W
  | back (x : Nat) (v : Int)
  | fwd (pc at_ : Nat)
structure Cf where
  seen : Seen
  ways : List W
  notes : List Int
/-- Where a try is: it takes what is left; or it goes on from a state. -/
inductive Ph
  | pop
  | go (pc at_ : Nat)
inductive Res
  | found (notes : List Int)
  | lost (seen : Seen) (notes : List Int)
inductive Go
  | fail
  | done
  | to (pc at_ : Nat)
def step (A : Nat → Nat → Act) (c : Cf) (pc at_ : Nat) : Cf × Go :=
  if c.seen pc at_ = true then (c, .fail) else
  match A pc at_ with
  | .done => (⟨mark c.seen pc at_, c.ways, c.notes⟩, .done)
  | .fail => (⟨mark c.seen pc at_, c.ways, c.notes⟩, .fail)
  | .to p a => (⟨mark c.seen pc at_, c.ways, c.notes⟩, .to p a)
  | .save x => (⟨mark c.seen pc at_, .back x (c.notes.getD x (-1)) :: c.ways, c.notes.set x at_⟩, .to (pc + 1) at_)
  | .split p q => (⟨mark c.seen pc at_, .fwd q at_ :: c.ways, c.notes⟩, .to p at_)
def next (A : Nat → Nat → Act) (c : Cf) : Ph → (Cf × Ph) ⊕ Res
  | .pop => match c.ways with
    | [] => .inr (.lost c.seen c.notes)
    | .back x v :: r => .inl (⟨c.seen, r, c.notes.set x v⟩, .pop)
    | .fwd pc at_ :: r => .inl (⟨c.seen, r, c.notes⟩, .go pc at_)
  | .go pc at_ => match step A c pc at_ with
    | (c', .fail) => .inl (c', .pop)
    | (c', .done) => .inr (.found c'.notes)
    | (c', .to p a) => .inl (c', .go p a)
def iter (A : Nat → Nat → Act) : Nat → Cf → Ph → Option Res
  | 0, _, _ => none
  | N + 1, c, ph => match next A c ph with
    | .inl (c', ph') => iter A N c' ph'
    | .inr R => some R
/-- The try ends so. -/
def Ends (A : Nat → Nat → Act) (c : Cf) (ph : Ph) (R : Res) : Prop := ∃ N, iter A N c ph = some R
theorem Ends.on {A : Nat → Nat → Act} {c c' : Cf} {ph ph' : Ph} {R : Res} (h : next A c ph = .inl (c', ph')) : Ends A c' ph' R → Ends A c ph R := by
  rintro ⟨N, hN⟩
  exact ⟨N + 1, by rw [iter, h]; exact hN⟩
theorem Ends.off {A : Nat → Nat → Act} {c c' : Cf} {ph ph' : Ph} {R : Res} (h : next A c ph = .inl (c', ph')) (he : Ends A c ph R) : Ends A c' ph' R := by
  obtain ⟨N, hN⟩ := he
  cases N with
  | zero => cases hN
  | succ N => rw [iter, h] at hN; exact ⟨N, hN⟩
theorem Ends.stop {A : Nat → Nat → Act} {c : Cf} {ph : Ph} {R R' : Res} (h : next A c ph = .inr R') (he : Ends A c ph R) : R' = R := by
  obtain ⟨N, hN⟩ := he
  cases N with
  | zero => cases hN
  | succ N => rw [iter, h] at hN; exact Option.some.inj hN
theorem Ends.now {A : Nat → Nat → Act} {c : Cf} {ph : Ph} {R : Res} (h : next A c ph = .inr R) : Ends A c ph R := ⟨1, by rw [iter, h]⟩
/-- What is left to show behind a try. -/
def Comes (A : Nat → Nat → Act) (S' : Seen) (ways : List W) (nt : List Int) (R : Res) : Option (List Int) → Prop
  | some nt' => R = .found nt'
  | none => Ends A ⟨S', ways, nt⟩ .pop R
/-- Step by step, a try comes to what it comes to. -/
theorem ends_exp {A : Nat → Nat → Act} {S S' : Seen} {pc at_ : Nat} {nt : List Int} {r : Option (List Int)} (h : Exp A S pc at_ nt S' r) :
    ∀ (ways : List W) (R : Res), Comes A S' ways nt R r → Ends A ⟨S, ways, nt⟩ (.go pc at_) R := by
  induction h with
  | old S pc at_ nt h =>
    intro ways R hR
    exact Ends.on (by simp [next, step, h]) hR
  | done S pc at_ nt h h1 =>
    intro ways R hR
    have hR : R = .found nt := hR
    rw [hR]
    exact Ends.now (by simp [next, step, h, h1])
  | fail S pc at_ nt h h1 =>
    intro ways R hR
    exact Ends.on (by simp [next, step, h, h1]) hR
  | to S S' pc at_ p a nt r h h1 h3 ih =>
    intro ways R hR
    exact Ends.on (by simp [next, step, h, h1]) (ih ways R hR)
  | save S S' pc at_ x nt r h h1 h3 ih =>
    intro ways R hR
    refine Ends.on (by simp [next, step, h, h1]) (ih (.back x (nt.getD x (-1)) :: ways) R ?_)
    cases r with
    | some nt' => exact hR
    | none =>
      refine Ends.on (c' := ⟨S', ways, nt⟩) (ph' := .pop) ?_ hR
      simp only [next]
      congr 3
      rw [List.set_set]
      apply List.ext_getElem?
      intro k
      rw [List.getElem?_set]
      split
      · rename_i hk
        subst hk
        split
        · rename_i hl
          rw [List.getD_eq_getElem?_getD, List.getElem?_eq_getElem hl]; rfl
        · rename_i hl
          rw [List.getElem?_eq_none (by omega)]
      · rfl
  | here S S' pc at_ p q nt r h h1 h3 ih =>
    intro ways R hR
    exact Ends.on (by simp [next, step, h, h1]) (ih (.fwd q at_ :: ways) R hR)
  | there S S' S'' pc at_ p q nt r h h1 h3 h4 ih ih2 =>
    intro ways R hR
    refine Ends.on (by simp [next, step, h, h1]) (ih (.fwd q at_ :: ways) R ?_)
    exact Ends.on (c' := ⟨S', ways, nt⟩) (ph' := .go q at_) rfl (ih2 ways R hR)
/-- What a try from a place comes to, with nothing left but this. -/
def resOf (S : Seen) (nt : List Int) : Option (List Int) → Res
  | some r => .found r
  | none => .lost S nt
theorem ends_run {A : Nat → Nat → Act} {S S' : Seen} {at_ : Nat} {nt : List Int} {r : Option (List Int)} (h : Exp A S 0 at_ nt S' r) : Ends A ⟨S, [.fwd 0 at_], nt⟩ .pop (resOf S' nt r) := by
  refine Ends.on (c' := ⟨S, [], nt⟩) (ph' := .go 0 at_) rfl (ends_exp h [] _ ?_)
  cases r with
  | some r => rfl
  | none => exact Ends.now rfl
/-- Find: tries from one place on, one behind the other. -/
inductive Finds (A : Nat → Nat → Act) (n : Nat) (nt : List Int) : Seen → Nat → Option (List Int) → Prop
  | out (S : Seen) (at_ : Nat) : n < at_ → Finds A n nt S at_ none
  | hit (S S' : Seen) (at_ : Nat) (r : List Int) : at_ ≤ n → Exp A S 0 at_ nt S' (some r) → Finds A n nt S at_ (some r)
  | miss (S S' : Seen) (at_ : Nat) (r : Option (List Int)) : at_ ≤ n → Exp A S 0 at_ nt S' none → Finds A n nt S' (at_ + 1) r → Finds A n nt S at_ r
/-- A try from a place, as the first one. -/
def Tries (A : Nat → Nat → Act) (nt : List Int) (p : Nat) (r : Option (List Int)) : Prop := ∃ S, Exp A (fun _ _ => false) 0 p nt S r
/-- The first place from one on, of those up to n, that a try finds. -/
def First (A : Nat → Nat → Act) (n : Nat) (nt : List Int) (at_ : Nat) : Option (List Int) → Prop
  | none => ∀ p, at_ ≤ p → p ≤ n → Tries A nt p none
  | some r => ∃ p, at_ ≤ p ∧ p ≤ n ∧ Tries A nt p (some r) ∧ ∀ q, at_ ≤ q → q < p → Tries A nt q none
theorem tries_one {A : Nat → Nat → Act} {nt : List Int} {p : Nat} {r r' : Option (List Int)} (h : Tries A nt p r) (h' : Tries A nt p r') : r = r' := by
  obtain ⟨S, h⟩ := h
  obtain ⟨S', h'⟩ := h'
  exact (exp_one h h').2
theorem finds_first {A : Nat → Nat → Act} {m n : Nat} {nt : List Int} (hA : Valid A m (n + 1)) (hm : 0 < m) {S : Seen} {at_ : Nat} {r : Option (List Int)} (h : Finds A n nt S at_ r) : Shut A S → First A n nt at_ r := by
  induction h with
  | out S at_ h => exact fun _ p h1 h2 => by omega
  | hit S S' at_ r h h1 =>
    intro hs
    exact ⟨at_, Nat.le_refl _, h, exp_fresh hA h1 hs hm (by omega), fun q h3 h4 => by omega⟩
  | miss S S' at_ r h h1 h2 ih =>
    intro hs
    have h3 := ih (shut_exp h1 hs)
    have h4 : Tries A nt at_ none := exp_fresh hA h1 hs hm (by omega)
    cases r with
    | none =>
      intro p hp1 hp2
      rcases Nat.lt_or_ge at_ p with h5 | h5
      · exact h3 p (by omega) hp2
      · have : p = at_ := by omega
        subst this; exact h4
    | some r =>
      obtain ⟨p, h5, h6, h7, h8⟩ := h3
      refine ⟨p, by omega, h6, h7, fun q h9 h10 => ?_⟩
      rcases Nat.lt_or_ge at_ q with h11 | h11
      · exact h8 q (by omega) h10
      · have : q = at_ := by omega
        subst this; exact h4
theorem first_one {A : Nat → Nat → Act} {n : Nat} {nt : List Int} {at_ : Nat} {r r' : Option (List Int)} (h : First A n nt at_ r) (h' : First A n nt at_ r') : r = r' := by
  cases r with
  | none =>
    cases r' with
    | none => rfl
    | some r' =>
      obtain ⟨p, h1, h2, h3, -⟩ := h'
      cases tries_one (h p h1 h2) h3
  | some r =>
    obtain ⟨p, h1, h2, h3, h4⟩ := h
    cases r' with
    | none => cases tries_one (h' p h1 h2) h3
    | some r' =>
      obtain ⟨p', h1', h2', h3', h4'⟩ := h'
      rcases Nat.lt_trichotomy p p' with h5 | h5 | h5
      · cases tries_one (h4' p h1 h5) h3
      · subst h5
        exact tries_one h3 h3'
      · cases tries_one (h4 p' h1' h5) h3'
theorem finds_total {A : Nat → Nat → Act} {m n : Nat} {nt : List Int} (hA : Valid A m (n + 1)) (hm : 0 < m) : ∀ (N : Nat) (S : Seen) (at_ : Nat), n + 1 - at_ ≤ N → ∃ r, Finds A n nt S at_ r
  | 0, S, at_, h => ⟨none, .out S at_ (by omega)⟩
  | N + 1, S, at_, h => by
    rcases Nat.lt_or_ge n at_ with h1 | h1
    · exact ⟨none, .out S at_ h1⟩
    · obtain ⟨S', r, h2, -⟩ := exp_total hA _ S 0 at_ nt (Nat.le_refl _) hm (by omega)
      cases r with
      | some r => exact ⟨some r, .hit S S' at_ r h1 h2⟩
      | none =>
        obtain ⟨r, h3⟩ := finds_total hA hm N S' (at_ + 1) (by omega)
        exact ⟨r, .miss S S' at_ r h1 h2 h3⟩
theorem find_all {A : Nat → Nat → Act} {m n : Nat} {nt : List Int} (hA : Valid A m (n + 1)) (hm : 0 < m) (at_ : Nat) : ∃ r, Finds A n nt (fun _ _ => false) at_ r ∧ First A n nt at_ r := by
  obtain ⟨r, h⟩ := finds_total (nt := nt) hA hm _ (fun _ _ => false) at_ (Nat.le_refl _)
  exact ⟨r, h, finds_first hA hm h (shut_none A)⟩
/-- Found from a place: found from each place between. -/
theorem first_between {A : Nat → Nat → Act} {n : Nat} {nt r : List Int} {at_ p : Nat} (h : First A n nt at_ (some r)) (hr : ∀ q, Tries A nt q (some r) → p ≤ q) (hp : at_ ≤ p) : First A n nt p (some r) := by
  obtain ⟨q, h1, h2, h3, h4⟩ := h
  exact ⟨q, hr q h3, h2, h3, fun q' h5 h6 => h4 q' (by omega) h6⟩
end MX
namespace PG
open RX (ReN)
/-- All instructions of a part are so. -/
def All (P : Inst → Prop) (p : Part) : Prop := ∀ x ∈ p.l, P x
/-- What holds of all that a tree's instructions are made of. -/
structure Gen (P : Inst → Prop) : Prop where
  moved : ∀ (k : Int) (x : Inst), P x → P (moved k x)
  split : ∀ x y : Int, P ⟨4, x, y, false, []⟩
  jump : ∀ x : Int, P ⟨5, x, 0, false, []⟩
  save : ∀ x : Int, 2 ≤ x → P ⟨3, x, 0, false, []⟩
  start : P ⟨1, 0, 0, false, []⟩
  end_ : P ⟨2, 0, 0, false, []⟩
  set : ∀ (neg : Bool) (set : List Int), set.length ≤ 1000 → P ⟨0, 0, 0, neg, set⟩
section
variable {P : Inst → Prop}
theorem all_nil (n : Nat) : All P ⟨[], n⟩ := by intro x hx; simp at hx
theorem rowL_all (hP : Gen P) : ∀ (ps : List Part) (out : Part), All P out → (∀ p ∈ ps, All P p) → All P (rowL out ps)
  | [], out, h, _ => h
  | p :: ps, out, h, hp => by
    rw [rowL]
    split
    · exact all_nil _
    · refine rowL_all hP ps _ (fun x hx => ?_) (fun q hq => hp q (by simp [hq]))
      rcases List.mem_append.1 hx with hx | hx
      · exact h x hx
      · obtain ⟨y, hy, rfl⟩ := List.mem_map.1 hx
        exact hP.moved _ _ (hp p (by simp) y hy)
theorem rowA (hP : Gen P) {ps : List Part} (h : ∀ p ∈ ps, All P p) : All P (row ps) := rowL_all hP ps _ (all_nil _) h
theorem oneA {x : Inst} (h : P x) : All P (one [x]) := by
  intro y hy
  simp [one] at hy
  subst hy
  exact h
theorem splitA (hP : Gen P) (far : Int) (lz : Bool) : All P (split far lz) := by
  unfold split; exact oneA (by split <;> exact hP.split _ _)
theorem jumpA (hP : Gen P) (far : Int) : All P (jump far) := oneA (hP.jump _)
theorem saveA (hP : Gen P) {x : Int} (h : 2 ≤ x) : All P (save x) := oneA (hP.save x h)
theorem eitherA (hP : Gen P) : ∀ (ps : List Part), (∀ p ∈ ps, All P p) → All P (either ps)
  | [], _ => all_nil _
  | [p], h => h p (by simp)
  | p :: q :: ps, h => by
    have h1 := eitherA hP (q :: ps) (fun x hx => h x (by simp at hx ⊢; right; exact hx))
    rw [either]
    refine rowA hP (fun x hx => ?_)
    simp at hx
    rcases hx with rfl | rfl | rfl | rfl
    · exact splitA hP _ _
    · exact h _ (by simp)
    · exact jumpA hP _
    · exact h1
theorem manyA (hP : Gen P) {p : Part} (h : All P p) (n : Nat) : All P (many p n) := by
  unfold many
  split
  · exact all_nil _
  · exact rowA hP (fun q hq => by rw [List.eq_of_mem_replicate hq]; exact h)
theorem maybeA (hP : Gen P) {p : Part} (h : All P p) (lz : Bool) : ∀ (n : Nat) (out : Part), All P out → All P (maybeL p lz n out)
  | 0, _, ho => ho
  | n + 1, out, ho => by
    rw [maybeL]
    refine maybeA hP h lz n _ (rowA hP (fun x hx => ?_))
    simp at hx
    rcases hx with rfl | rfl | rfl
    · exact splitA hP _ _
    · exact h
    · exact ho
theorem loopA (hP : Gen P) {p : Part} (h : All P p) (lz : Bool) : All P (loop p lz) := by
  refine rowA hP (fun x hx => ?_)
  simp at hx
  rcases hx with rfl | rfl | rfl
  · exact splitA hP _ _
  · exact h
  · exact jumpA hP _
theorem headA {ins : List Part} (h : ∀ p ∈ ins, All P p) : All P (ins.headD ⟨[], 0⟩) := by
  cases ins with
  | nil => exact all_nil _
  | cons p ps => exact h p (by simp)
theorem nodeA (hP : Gen P) {x : ReN} {ins : List Part} (hx : x.set.length ≤ 1000) (h : ∀ p ∈ ins, All P p) : All P (nodeP x ins) := by
  unfold nodeP
  split
  · exact rowA hP h
  · split
    · exact eitherA hP _ h
    · split
      · exact oneA (hP.set _ _ hx)
      · split
        · exact oneA hP.start
        · split
          · exact oneA hP.end_
          · split
            · split
              · refine rowA hP (fun y hy => ?_)
                simp at hy
                rcases hy with rfl | rfl | rfl
                · exact saveA hP (by omega)
                · simpa using headA h
                · exact saveA hP (by omega)
              · exact headA h
            · split
              · refine rowA hP (fun y hy => ?_)
                simp at hy
                rcases hy with rfl | rfl
                · exact manyA hP (by simpa using headA h) _
                · exact loopA hP (by simpa using headA h) _
              · refine rowA hP (fun y hy => ?_)
                simp at hy
                rcases hy with rfl | rfl
                · exact manyA hP (by simpa using headA h) _
                · exact maybeA hP (by simpa using headA h) _ _ _ (all_nil _)
theorem kids_mem : ∀ (n : Nat) (r : List ReN), ∀ k ∈ kids n r, ∀ y ∈ k, y ∈ r
  | 0, r, k, hk, _, _ => by cases r <;> simp [kids] at hk
  | n + 1, [], k, hk, _, _ => by simp [kids] at hk
  | n + 1, x :: r, k, hk, y, hy => by
    rw [kids] at hk
    rcases List.mem_cons.1 hk with rfl | hk
    · rcases List.mem_cons.1 hy with rfl | hy
      · simp
      · exact List.mem_cons_of_mem _ ((List.takeWhile_sublist _).subset hy)
    · exact List.mem_cons_of_mem _ ((List.dropWhile_sublist _).subset (kids_mem n _ k hk y hy))
theorem treeA (hP : Gen P) : ∀ (n : Nat) (l : List ReN), RX.Sms l → All P (tree n l)
  | 0, _, _ => all_nil _
  | _ + 1, [], _ => all_nil _
  | n + 1, x :: r, h => nodeA hP (h x (by simp)).1 (fun p hp => by
    obtain ⟨k, hk, rfl⟩ := List.mem_map.1 hp
    exact treeA hP n k (fun y hy => h y (List.mem_cons_of_mem _ (kids_mem _ _ k hk y hy))))
end
theorem moved_x {k : Int} {x : Inst} (h : x.op = 3) : (moved k x).x = x.x := by
  unfold moved
  rw [if_neg (by omega), if_neg (by omega)]
/-- Notes of groups alone; small sets. -/
theorem gen_sv : Gen (fun x => (x.op = 3 → 2 ≤ x.x) ∧ x.set.length ≤ 1000) :=
  ⟨fun k x h => ⟨fun ho => by rw [moved_op] at ho; rw [moved_x ho]; exact h.1 ho, by rw [moved_set]; exact h.2⟩, fun _ _ => ⟨fun h => by simp at h, by simp⟩, fun _ => ⟨fun h => by simp at h, by simp⟩, fun x h => ⟨fun _ => h, by simp⟩, ⟨fun h => by simp at h, by simp⟩, ⟨fun h => by simp at h, by simp⟩, fun _ _ h => ⟨fun h => by simp at h, h⟩⟩
/-- An instruction inside of a program with its last note at e. -/
def InM (g e : Nat) (i : Nat) (x : Inst) : Prop :=
  (x.op = 4 → 1 ≤ x.x ∧ x.x ≤ e ∧ 1 ≤ x.y ∧ x.y ≤ e ∧ (x.x = x.y → x.x = i + 1)) ∧ (x.op = 5 → 1 ≤ x.x ∧ x.x ≤ e) ∧ (x.op = 3 → 2 ≤ x.x ∧ x.x ≤ 2 * g + 1) ∧ (x.op = 0 → x.set ≠ [] ∧ x.set.length % 2 = 0) ∧ 0 ≤ x.op ∧ x.op ≤ 5
/-- A pattern's program. -/
structure Made (l : List Inst) (g e : Nat) : Prop where
  len : l.length = e + 2
  pos : 1 ≤ e
  le : e ≤ 298
  first : l[0]? = some ⟨3, 0, 0, false, []⟩
  note : l[e]? = some ⟨3, 1, 0, false, []⟩
  last : l[e + 1]? = some ⟨6, 0, 0, false, []⟩
  mid : ∀ i x, l[i]? = some x → 1 ≤ i → i < e → InM g e i x
theorem whole_made {l : List ReN} {g : Nat} (hsm : RX.Sms l) (hT : Ok g (tree l.length l)) (h : (whole l).n ≤ 300) : Made (whole l).l g ((tree l.length l).n + 1) ∧ (∀ x ∈ (whole l).l, x.set.length ≤ 1000) ∧ (whole l).n = (tree l.length l).n + 3 ∧ (whole l).l = ⟨3, 0, 0, false, []⟩ :: ((tree l.length l).l.map (moved 1) ++ [⟨3, 1, 0, false, []⟩, ⟨6, 0, 0, false, []⟩]) := by
  have hsv := treeA gen_sv l.length l hsm
  unfold whole at h ⊢
  generalize tree l.length l = T at hT hsv h ⊢
  have hf : ∀ p ∈ [save 0, T, save 1, one [⟨6, 0, 0, false, []⟩]], Fine p := by
    intro p hp
    simp at hp
    rcases hp with rfl | rfl | rfl | rfl
    · exact save_fine _
    · exact hT.1
    · exact save_fine _
    · exact one_fine (by simp)
  have htot : total [save 0, T, save 1, one [⟨6, 0, 0, false, []⟩]] = 1 + (T.n + (1 + (1 + 0))) := rfl
  have he := row_eq hf
  by_cases ht : total [save 0, T, save 1, one [⟨6, 0, 0, false, []⟩]] < 301
  · have h1 := he.1 ht
    have hTl : T.l.length = T.n := h1.2 T (by simp)
    have hl : (row [save 0, T, save 1, one [⟨6, 0, 0, false, []⟩]]).l = ⟨3, 0, 0, false, []⟩ :: (T.l.map (moved 1) ++ [⟨3, 1, 0, false, []⟩, ⟨6, 0, 0, false, []⟩]) := by
      rw [h1.1]
      simp [flat, save, one, moved]
    have hn : (row [save 0, T, save 1, one [⟨6, 0, 0, false, []⟩]]).n = T.n + 3 := by rw [h1.1]; show total _ = _; omega
    refine ⟨?_, ?_, hn, hl⟩
    rotate_left
    · rw [hl]
      intro x hx
      simp at hx
      rcases hx with rfl | ⟨y, hy, rfl⟩ | rfl | rfl
      · simp
      · rw [moved_set]; exact (hsv y hy).2
      · simp
      · simp
    rw [hl]
    refine ⟨by simp; omega, by omega, by omega, rfl, ?_, ?_, ?_⟩
    · rw [List.getElem?_cons_succ, List.getElem?_append_right (by simp; omega)]
      simp [hTl]
    · rw [List.getElem?_cons_succ, List.getElem?_append_right (by simp; omega)]
      simp [hTl]
    · intro i x hx h1 h2
      obtain ⟨j, rfl⟩ : ∃ j, i = j + 1 := ⟨i - 1, by omega⟩
      rw [List.getElem?_cons_succ, List.getElem?_append_left (by simp; omega), List.getElem?_map, Option.map_eq_some_iff] at hx
      obtain ⟨y, hy, rfl⟩ := hx
      obtain ⟨a1, a2, a3, a4, a5, a6⟩ := hT.2 j y hy
      have hs := (hsv y (List.mem_of_getElem? hy)).1
      refine ⟨fun ho => ?_, fun ho => ?_, fun ho => ?_, fun ho => ?_, by rw [moved_op]; exact a5, by rw [moved_op]; exact a6⟩
      · rw [moved_op] at ho
        have := a1 ho
        unfold moved
        rw [if_pos ho]
        simp only
        push_cast
        omega
      · rw [moved_op] at ho
        have := a2 ho
        unfold moved
        rw [if_neg (by omega), if_pos ho]
        simp only
        push_cast
        omega
      · rw [moved_op] at ho
        have := a3 ho
        have := hs ho
        unfold moved
        rw [if_neg (by omega), if_neg (by omega)]
        omega
      · rw [moved_op] at ho
        rw [moved_set]
        exact a4 ho
  · rw [he.2 (by omega)] at h
    have h : 301 ≤ 300 := h
    omega
/-- An instruction of a whole program. -/
structure InL (g n k : Nat) (x : Inst) : Prop where
  split : x.op = 4 → 1 ≤ x.x ∧ x.x < n ∧ 1 ≤ x.y ∧ x.y < n ∧ (x.x = x.y → x.x = k + 1)
  jump : x.op = 5 → 1 ≤ x.x ∧ x.x < n
  save : x.op = 3 → 0 ≤ x.x ∧ x.x ≤ 2 * g + 1
  set : x.op = 0 → 0 < x.set.length ∧ x.set.length % 2 = 0
theorem Made.all {l : List Inst} {g e : Nat} (h : Made l g e) {k : Nat} {x : Inst} (hx : l[k]? = some x) : InL g (e + 2) k x := by
  obtain ⟨hk, -⟩ := List.getElem?_eq_some_iff.1 hx
  have hlen := h.len
  rcases Nat.eq_zero_or_pos k with h0 | h0
  · subst h0
    rw [h.first] at hx
    obtain rfl := Option.some.inj hx
    exact ⟨fun h => by simp at h, fun h => by simp at h, fun _ => by simp; omega, fun h => by simp at h⟩
  rcases Nat.lt_or_ge k e with h1 | h1
  · obtain ⟨m4, m5, m3, m0, -, -⟩ := h.mid k x hx h0 h1
    refine ⟨fun h => ?_, fun h => ?_, fun h => ?_, fun h => ⟨List.length_pos_iff.2 (m0 h).1, (m0 h).2⟩⟩
    · have := m4 h; push_cast; omega
    · have := m5 h; push_cast; omega
    · have := m3 h; omega
  · rcases Nat.lt_or_ge e k with h2 | h2
    · have : k = e + 1 := by omega
      subst this
      rw [h.last] at hx
      obtain rfl := Option.some.inj hx
      exact ⟨fun h => by simp at h, fun h => by simp at h, fun h => by simp at h, fun h => by simp at h⟩
    · have : k = e := by omega
      subst this
      rw [h.note] at hx
      obtain rfl := Option.some.inj hx
      exact ⟨fun h => by simp at h, fun h => by simp at h, fun _ => by simp; omega, fun h => by simp at h⟩
/-- A pattern's program is made of its tree. -/
theorem compile_made {s : List Int} {l : List Inst} {p : Int} (h : compile s = (l, 0, p)) : ∃ (t : List ReN) (e : Nat), RX.parse s = (t, 0, 0) ∧ Made l (RX.groups t) e ∧ l = (whole t).l ∧ (whole t).n ≤ 300 ∧ p = 0 := by
  unfold compile at h
  rcases hp : RX.parse s with ⟨t, c, q⟩
  rw [hp] at h
  simp only at h
  by_cases hc : c = 0
  · subst hc
    rw [if_pos rfl] at h
    by_cases hn : 300 < (whole t).n
    · rw [if_pos hn] at h; injection h with _ h; injection h with h _; cases h
    · rw [if_neg hn] at h
      injection h with h1 h2
      injection h2 with _ h2
      obtain ⟨b, hw, -⟩ := RX.parse_wf hp
      have hb := RX.wf_base hw
      have hg : (RX.groups t : Int) = b := by have := hb.grp; omega
      have hok := tree_wf (g := RX.groups t) hw (Int.le_refl _) (by omega) 0 t.length (Nat.le_refl _)
      have hl0 : t.map (RX.lift 0) = t := by
        conv => rhs; rw [← List.map_id t]
        exact List.map_congr_left fun x _ => by unfold RX.lift; simp
      rw [hl0] at hok
      have hm := whole_made (RX.parse_sms hp) hok (by omega)
      have hq : q = 0 := RX.parse_at hp
      subst hq
      exact ⟨t, _, rfl, h1 ▸ hm.1, h1.symm, by omega, h2.symm⟩
  · rw [if_neg hc] at h
    injection h with _ h
    injection h with h _
    exact absurd h hc
theorem compile_bad {s : List Int} {l : List Inst} {c p : Int} (h : compile s = (l, c, p)) (hc : c ≠ 0) : l = [] := by
  unfold compile at h
  rcases hp : RX.parse s with ⟨t, c', q⟩
  rw [hp] at h
  simp only at h
  split at h
  · split at h
    · injection h with h _; exact h.symm
    · injection h with _ h; injection h with h _; exact absurd h.symm hc
  · injection h with h _; exact h.symm
end PG
namespace MX
open PG (Inst Made InM)
theorem act_made {l : List Inst} {g e : Nat} (h : Made l g e) (fold : Bool) (s : List Int) {pc at_ : Nat} (hp : pc < e + 2) (ha : at_ ≤ s.length) : match act l fold s pc at_ with
    | .done => pc = e + 1
    | .fail => True
    | .to p a => 1 ≤ pc ∧ 1 ≤ p ∧ p ≤ e ∧ at_ ≤ a ∧ a ≤ s.length
    | .save x => pc + 1 < e + 2 ∧ (pc = 0 ∧ x = 0 ∨ pc = e ∧ x = 1 ∨ (1 ≤ pc ∧ pc < e ∧ 2 ≤ x ∧ x ≤ 2 * g + 1))
    | .split p q => 1 ≤ pc ∧ 1 ≤ p ∧ p ≤ e ∧ 1 ≤ q ∧ q ≤ e := by
  have hpos := h.pos
  rcases Nat.eq_zero_or_pos pc with h0 | h0
  · subst h0
    unfold act
    rw [h.first]
    simp only [show ¬ (3 : Int) = 0 by decide, show ¬ (3 : Int) = 1 by decide, show ¬ (3 : Int) = 2 by decide, if_false, if_true]
    exact ⟨by omega, .inl ⟨by trivial, rfl⟩⟩
  rcases Nat.lt_or_ge pc e with h1 | h1
  · have hlt : pc < l.length := by rw [h.len]; omega
    have hx := List.getElem?_eq_getElem hlt
    have hm := h.mid pc _ hx h0 h1
    generalize l[pc] = x at hx hm
    unfold act
    rw [hx]
    obtain ⟨m4, m5, m3, -, m6, m7⟩ := hm
    simp only
    by_cases o0 : x.op = 0
    · rw [if_pos o0]
      by_cases hc : hits fold s at_ x = true
      · rw [if_pos hc]
        have hs : at_ < s.length := by
          rcases Nat.lt_or_ge at_ s.length with h | h
          · exact h
          · unfold hits at hc; rw [List.getElem?_eq_none h] at hc; cases hc
        exact ⟨h0, by omega, by omega, by omega, by omega⟩
      · rw [if_neg hc]; trivial
    · rw [if_neg o0]
      by_cases o1 : x.op = 1
      · rw [if_pos o1]
        by_cases hz : at_ = 0
        · rw [if_pos hz]; exact ⟨h0, by omega, by omega, Nat.le_refl _, ha⟩
        · rw [if_neg hz]; trivial
      · rw [if_neg o1]
        by_cases o2 : x.op = 2
        · rw [if_pos o2]
          by_cases hz : at_ = s.length
          · rw [if_pos hz]; exact ⟨h0, by omega, by omega, Nat.le_refl _, ha⟩
          · rw [if_neg hz]; trivial
        · rw [if_neg o2]
          by_cases o3 : x.op = 3
          · rw [if_pos o3]
            have := m3 o3
            exact ⟨by omega, .inr (.inr ⟨h0, h1, by omega, by omega⟩)⟩
          · rw [if_neg o3]
            by_cases o4 : x.op = 4
            · rw [if_pos o4]
              have := m4 o4
              exact ⟨h0, by omega, by omega, by omega, by omega⟩
            · rw [if_neg o4]
              by_cases o5 : x.op = 5
              · rw [if_pos o5]
                have := m5 o5
                exact ⟨h0, by omega, by omega, Nat.le_refl _, ha⟩
              · omega
  · rcases Nat.lt_or_ge e pc with h2 | h2
    · have : pc = e + 1 := by omega
      subst this
      unfold act
      rw [h.last]
      simp only [show ¬ (6 : Int) = 0 by decide, show ¬ (6 : Int) = 1 by decide, show ¬ (6 : Int) = 2 by decide, show ¬ (6 : Int) = 3 by decide, show ¬ (6 : Int) = 4 by decide, show ¬ (6 : Int) = 5 by decide, if_false]
    · have : pc = e := by omega
      subst this
      unfold act
      rw [h.note]
      simp only [show ¬ (3 : Int) = 0 by decide, show ¬ (3 : Int) = 1 by decide, show ¬ (3 : Int) = 2 by decide, if_false, if_true]
      exact ⟨by omega, .inr (.inl ⟨by trivial, rfl⟩)⟩
theorem valid_made {l : List Inst} {g e : Nat} (h : Made l g e) (fold : Bool) (s : List Int) : Valid (act l fold s) (e + 2) (s.length + 1) := by
  intro pc at_ hp ha
  have := act_made h fold s hp (at_ := at_) (by omega)
  revert this
  generalize act l fold s pc at_ = a
  intro this
  cases a with
  | done => trivial
  | fail => trivial
  | to p a => simp only at this ⊢; omega
  | save x => exact this.1
  | split p q => simp only at this ⊢; omega
/-- Notes on a way that began at lo and is at a place. -/
structure Nt (g e lo pc at_ : Nat) (nt : List Int) : Prop where
  len : nt.length = 2 * g + 2
  ge : lo ≤ at_
  in_ : ∀ (i : Nat) (v : Int), nt[i]? = some v → v = -1 ∨ ((lo : Int) ≤ v ∧ v ≤ at_)
  zero : pc = 0 → at_ = lo
  first : 1 ≤ pc → nt[0]? = some (lo : Int)
  last : pc = e + 1 → nt[1]? = some (at_ : Int)
/-- A match that began at lo. -/
structure Mt (g n lo : Nat) (r : List Int) : Prop where
  len : r.length = 2 * g + 2
  first : r[0]? = some (lo : Int)
  last : ∃ b : Nat, r[1]? = some (b : Int) ∧ lo ≤ b ∧ b ≤ n ∧ ∀ (i : Nat) (v : Int), r[i]? = some v → v = -1 ∨ ((lo : Int) ≤ v ∧ v ≤ b)
theorem Nt.on {g e lo pc at_ p a : Nat} {nt : List Int} (h : Nt g e lo pc at_ nt) (h1 : 1 ≤ pc) (hp : 1 ≤ p) (he : p ≤ e) (ha : at_ ≤ a) : Nt g e lo p a nt :=
  ⟨h.len, by have := h.ge; omega, fun i v hv => by have := h.in_ i v hv; omega, fun h => by omega, fun _ => h.first h1, fun h => by omega⟩
theorem exp_match {l : List Inst} {g e : Nat} (h : Made l g e) {fold : Bool} {s : List Int} {S S' : Seen} {pc at_ : Nat} {nt : List Int} {o : Option (List Int)} (hx : Exp (act l fold s) S pc at_ nt S' o) :
    ∀ (lo : Nat) (r : List Int), o = some r → pc < e + 2 → at_ ≤ s.length → Nt g e lo pc at_ nt → Mt g s.length lo r := by
  induction hx with
  | old => intro lo r h; cases h
  | fail => intro lo r h; cases h
  | done S pc at_ nt _ h1 =>
    intro lo r hr hp ha hn
    injection hr with hr
    subst hr
    have := act_made h fold s hp ha
    rw [h1] at this
    have hpc : pc = e + 1 := this
    exact ⟨hn.len, hn.first (by omega), at_, hn.last hpc, hn.ge, ha, hn.in_⟩
  | to S S' pc at_ p a nt o _ h1 h3 ih =>
    intro lo r hr hp ha hn
    have := act_made h fold s hp ha
    rw [h1] at this
    obtain ⟨a1, a2, a3, a4, a5⟩ := this
    exact ih lo r hr (by omega) a5 (hn.on a1 a2 a3 a4)
  | save S S' pc at_ x nt o _ h1 h3 ih =>
    intro lo r hr hp ha hn
    have := act_made h fold s hp ha
    rw [h1] at this
    obtain ⟨a1, a2⟩ := this
    have hlen := hn.len
    have hpos := h.pos
    refine ih lo r hr a1 ha ⟨by rw [List.length_set]; exact hlen, hn.ge, fun i v hv => ?_, fun h => by omega, fun _ => ?_, fun hpc => ?_⟩
    · rw [List.getElem?_set] at hv
      split at hv
      · split at hv
        · injection hv with hv
          subst hv
          have := hn.ge
          exact .inr ⟨by omega, by omega⟩
        · cases hv
      · exact hn.in_ i v hv
    · rw [List.getElem?_set]
      rcases a2 with ⟨a2, rfl⟩ | ⟨a2, rfl⟩ | ⟨a2, -, a3, -⟩
      · rw [if_pos rfl, if_pos (by omega), hn.zero a2]
      · rw [if_neg (by decide)]
        exact hn.first (by omega)
      · rw [if_neg (by omega)]
        exact hn.first a2
    · rw [List.getElem?_set]
      rcases a2 with ⟨a2, rfl⟩ | ⟨a2, rfl⟩ | ⟨a2, a3, -⟩
      · omega
      · rw [if_pos rfl, if_pos (by omega)]
      · omega
  | here S S' pc at_ p q nt r' _ h1 h3 ih =>
    intro lo r hr hp ha hn
    have := act_made h fold s hp ha
    rw [h1] at this
    obtain ⟨a1, a2, a3, a4, a5⟩ := this
    exact ih lo r hr (by omega) ha (hn.on a1 a2 a3 (Nat.le_refl _))
  | there S S' S'' pc at_ p q nt o _ h1 h3 h4 ih ih2 =>
    intro lo r hr hp ha hn
    have := act_made h fold s hp ha
    rw [h1] at this
    obtain ⟨a1, a2, a3, a4, a5⟩ := this
    exact ih2 lo r hr (by omega) ha (hn.on a1 a4 a5 (Nat.le_refl _))
/-- No notes. -/
def blank (g : Nat) : List Int := List.replicate (2 * g + 2) (-1)
theorem nt_blank (g e lo : Nat) : Nt g e lo 0 lo (blank g) :=
  ⟨by simp [blank], Nat.le_refl _, fun i v hv => .inl (List.eq_of_mem_replicate (List.mem_of_getElem? hv)), fun _ => rfl, fun h => by omega, fun h => by omega⟩
theorem tries_match {l : List Inst} {g e : Nat} (h : Made l g e) {fold : Bool} {s r : List Int} {p : Nat} (hp : p ≤ s.length) (ht : Tries (act l fold s) (blank g) p (some r)) : Mt g s.length p r := by
  obtain ⟨S, ht⟩ := ht
  exact exp_match h ht p r rfl (by omega) hp (nt_blank g e p)
theorem first_match {l : List Inst} {g e : Nat} (h : Made l g e) {fold : Bool} {s r : List Int} {from_ : Nat} (hf : First (act l fold s) s.length (blank g) from_ (some r)) :
    ∃ p, from_ ≤ p ∧ p ≤ s.length ∧ Mt g s.length p r ∧ ∀ k, from_ ≤ k → k ≤ p → First (act l fold s) s.length (blank g) k (some r) := by
  obtain ⟨p, h1, h2, h3, h4⟩ := hf
  exact ⟨p, h1, h2, tries_match h h2 h3, fun k h5 h6 => ⟨p, h6, h2, h3, fun q h7 h8 => h4 q (by omega) h8⟩⟩
/-- All places, one behind the other. -/
inductive Alls (A : Nat → Nat → Act) (n : Nat) (nt : List Int) : Nat → List (List Int) → Prop
  | out (at_ : Nat) : n < at_ → Alls A n nt at_ []
  | none_ (at_ : Nat) : at_ ≤ n → First A n nt at_ none → Alls A n nt at_ []
  | more (at_ a b : Nat) (r : List Int) (L : List (List Int)) : at_ ≤ n → First A n nt at_ (some r) → r[0]? = some (a : Int) → r[1]? = some (b : Int) → Alls A n nt (if a = b then b + 1 else b) L → Alls A n nt at_ (r :: L)
end MX
namespace MX
/-- A try, with so many steps at most. -/
def expl (A : Nat → Nat → Act) : Nat → Seen → Nat → Nat → List Int → Option (Seen × Option (List Int))
  | 0, _, _, _, _ => none
  | f + 1, S, pc, at_, nt =>
    if S pc at_ = true then some (S, none) else
    match A pc at_ with
    | .done => some (mark S pc at_, some nt)
    | .fail => some (mark S pc at_, none)
    | .to p a => expl A f (mark S pc at_) p a nt
    | .save x => expl A f (mark S pc at_) (pc + 1) at_ (nt.set x at_)
    | .split p q => match expl A f (mark S pc at_) p at_ nt with
      | none => none
      | some (S', some r) => some (S', some r)
      | some (S', none) => expl A f S' q at_ nt
theorem expl_exp {A : Nat → Nat → Act} : ∀ (f : Nat) (S : Seen) (pc at_ : Nat) (nt : List Int) (S' : Seen) (r : Option (List Int)), expl A f S pc at_ nt = some (S', r) → Exp A S pc at_ nt S' r
  | 0, _, _, _, _, _, _, h => by cases h
  | f + 1, S, pc, at_, nt, S', r, h => by
    unfold expl at h
    rcases hs : S pc at_ with _ | _
    · rw [hs] at h
      simp only [Bool.false_eq_true, if_false] at h
      rcases hA : A pc at_ with _ | _ | ⟨p, a⟩ | x | ⟨p, q⟩
      · rw [hA] at h
        simp only [Option.some.injEq, Prod.mk.injEq] at h
        obtain ⟨rfl, rfl⟩ := h
        exact .done _ _ _ _ hs hA
      · rw [hA] at h
        simp only [Option.some.injEq, Prod.mk.injEq] at h
        obtain ⟨rfl, rfl⟩ := h
        exact .fail _ _ _ _ hs hA
      · rw [hA] at h
        exact .to _ _ _ _ _ _ _ _ hs hA (expl_exp f _ _ _ _ _ _ h)
      · rw [hA] at h
        exact .save _ _ _ _ _ _ _ hs hA (expl_exp f _ _ _ _ _ _ h)
      · rw [hA] at h
        simp only at h
        rcases he : expl A f (mark S pc at_) p at_ nt with _ | ⟨S1, _ | r1⟩
        · rw [he] at h; cases h
        · rw [he] at h
          exact .there _ _ _ _ _ _ _ _ _ hs hA (expl_exp f _ _ _ _ _ _ he) (expl_exp f _ _ _ _ _ _ h)
        · rw [he] at h
          simp only [Option.some.injEq, Prod.mk.injEq] at h
          obtain ⟨rfl, rfl⟩ := h
          exact .here _ _ _ _ _ _ _ _ hs hA (expl_exp f _ _ _ _ _ _ he)
    · rw [hs] at h
      simp only [if_true, Option.some.injEq, Prod.mk.injEq] at h
      obtain ⟨rfl, rfl⟩ := h
      exact .old _ _ _ _ hs
/-- What a try is reckoned to find. -/
def reck (A : Nat → Nat → Act) (f p : Nat) (nt : List Int) : Option (Option (List Int)) := (expl A f (fun _ _ => false) 0 p nt).map (·.2)
theorem reck_tries {A : Nat → Nat → Act} {f p : Nat} {nt : List Int} {r : Option (List Int)} (h : reck A f p nt = some r) : Tries A nt p r := by
  unfold reck at h
  rcases he : expl A f (fun _ _ => false) 0 p nt with _ | ⟨S, o⟩
  · rw [he] at h; cases h
  · rw [he] at h
    simp only [Option.map_some, Option.some.injEq] at h
    subst h
    exact ⟨S, expl_exp f _ _ _ _ _ _ he⟩
theorem alls_one {A : Nat → Nat → Act} {n : Nat} {nt : List Int} {at_ : Nat} {L : List (List Int)} (h : Alls A n nt at_ L) : ∀ {L' : List (List Int)}, Alls A n nt at_ L' → L = L' := by
  induction h with
  | out at_ h => intro L' h2; cases h2 <;> first | rfl | omega
  | none_ at_ h h1 =>
    intro L' h2
    cases h2 with
    | out _ h3 => rfl
    | none_ _ _ h4 => rfl
    | more _ a b r L h3 h4 => cases first_one h1 h4
  | more at_ a b r L h h1 h2 h3 h4 ih =>
    intro L' h5
    cases h5 with
    | out _ h6 => omega
    | none_ _ _ h7 => cases first_one h1 h7
    | more _ a' b' r' L' h6 h7 h8 h9 h10 =>
      have e := first_one h1 h7
      injection e with e
      subst e
      rw [h2] at h8
      rw [h3] at h9
      have e1 := Option.some.inj h8
      have e2 := Option.some.inj h9
      have e1 : a = a' := by omega
      have e2 : b = b' := by omega
      subst e1 e2
      rw [ih h10]
end MX
namespace MX
open PG (Inst)
/-- Small letters, great letters. -/
def Small (r : Int) : Prop := (97 ≤ r ∧ r ≤ 122) ∨ (224 ≤ r ∧ r ≤ 254 ∧ r ≠ 247)
def Great (r : Int) : Prop := (65 ≤ r ∧ r ≤ 90) ∨ (192 ≤ r ∧ r ≤ 222 ∧ r ≠ 215)
theorem upper_small {r : Int} (h : Small r) : RX.upper r = r - 32 := by
  unfold RX.upper RX.within
  unfold Small at h
  rw [if_pos (by simp only [Bool.and_eq_true, decide_eq_true_eq]; omega)]
theorem upper_not {r : Int} (h : ¬ Small r) : RX.upper r = r := by
  unfold RX.upper RX.within
  unfold Small at h
  rw [if_neg (by simp only [Bool.and_eq_true, decide_eq_true_eq]; omega)]
theorem lower_great {r : Int} (h : Great r) : RX.lower r = r + 32 := by
  unfold RX.lower RX.within
  unfold Great at h
  rw [if_pos (by simp only [Bool.and_eq_true, decide_eq_true_eq]; omega)]
theorem lower_not {r : Int} (h : ¬ Great r) : RX.lower r = r := by
  unfold RX.lower RX.within
  unfold Great at h
  rw [if_neg (by simp only [Bool.and_eq_true, decide_eq_true_eq]; omega)]
theorem isIn_case (r q : Int) (x : Inst) (h : q = RX.upper r ∨ q = RX.lower r) : isIn true q x = isIn true r x := by
  unfold isIn
  congr 1
  simp only [Bool.true_and]
  by_cases hs : Small r
  · have hg : ¬ Great r := by unfold Small at hs; unfold Great; omega
    have hg2 : Great (r - 32) := by unfold Small at hs; unfold Great; omega
    have hs2 : ¬ Small (r - 32) := by unfold Small at hs ⊢; omega
    rw [upper_small hs, lower_not hg] at h ⊢
    rcases h with rfl | rfl
    · rw [upper_not hs2, lower_great hg2, show r - 32 + 32 = r by omega]
      cases lies (r - 32) x.set <;> cases lies r x.set <;> rfl
    · rw [upper_small hs, lower_not hg]
  · by_cases hg : Great r
    · have hg2 : ¬ Great (r + 32) := by unfold Great at hg ⊢; omega
      have hs2 : Small (r + 32) := by unfold Great at hg; unfold Small; omega
      rw [upper_not hs, lower_great hg] at h ⊢
      rcases h with rfl | rfl
      · rw [upper_not hs, lower_great hg]
      · rw [upper_small hs2, lower_not hg2, show r + 32 - 32 = r by omega]
        cases lies (r + 32) x.set <;> cases lies r x.set <;> rfl
    · rw [upper_not hs, lower_not hg] at h ⊢
      rcases h with rfl | rfl <;> rw [upper_not hs, lower_not hg]
/-- The same text, in letters of either case. -/
def Cased (s u : List Int) : Prop := u.length = s.length ∧ ∀ (i : Nat) (r : Int), s[i]? = some r → u[i]? = some (RX.upper r) ∨ u[i]? = some (RX.lower r)
theorem hits_case {s u : List Int} (h : Cased s u) (at_ : Nat) (x : Inst) : hits true u at_ x = hits true s at_ x := by
  unfold hits
  rcases hs : s[at_]? with _ | r
  · rw [List.getElem?_eq_none (by have := List.getElem?_eq_none_iff.1 hs; have := h.1; omega)]
  · rcases h.2 at_ r hs with h1 | h1
    · rw [h1]; exact isIn_case r _ x (.inl rfl)
    · rw [h1]; exact isIn_case r _ x (.inr rfl)
theorem act_case {s u : List Int} (h : Cased s u) (prog : List Inst) : act prog true u = act prog true s := by
  funext pc at_
  unfold act
  simp only [hits_case h, h.1]
end MX
end Go.Proofs.Ytpcdknfmgacggaa
