/- Plain law: a matcher's try step by step, with its ways left; the first place that is found. No program in sight. -/
import Derived.Test.YtfblkahjefdmaaaMxP
namespace Go.Proofs.Ytfblkahjefdmaaa.MX

/-- What is left: a note as it was; or a state. -/
inductive W
  | back (x : Nat) (v : Int)
  | fwd (pc at_ : Nat)
structure Cf where
  seen : Seen
  ways : List W
  notes : List Int
/-- Where a try is: it takes what is left; or it goes on from a state. -/
inductive Ph
  | pop
  | go (pc at_ : Nat)
inductive Res
  | found (notes : List Int)
  | lost (seen : Seen) (notes : List Int)
inductive Go
  | fail
  | done
  | to (pc at_ : Nat)
def step (A : Nat → Nat → Act) (c : Cf) (pc at_ : Nat) : Cf × Go :=
  if c.seen pc at_ = true then (c, .fail) else
  match A pc at_ with
  | .done => (⟨mark c.seen pc at_, c.ways, c.notes⟩, .done)
  | .fail => (⟨mark c.seen pc at_, c.ways, c.notes⟩, .fail)
  | .to p a => (⟨mark c.seen pc at_, c.ways, c.notes⟩, .to p a)
  | .save x => (⟨mark c.seen pc at_, .back x (c.notes.getD x (-1)) :: c.ways, c.notes.set x at_⟩, .to (pc + 1) at_)
  | .split p q => (⟨mark c.seen pc at_, .fwd q at_ :: c.ways, c.notes⟩, .to p at_)
def next (A : Nat → Nat → Act) (c : Cf) : Ph → (Cf × Ph) ⊕ Res
  | .pop => match c.ways with
    | [] => .inr (.lost c.seen c.notes)
    | .back x v :: r => .inl (⟨c.seen, r, c.notes.set x v⟩, .pop)
    | .fwd pc at_ :: r => .inl (⟨c.seen, r, c.notes⟩, .go pc at_)
  | .go pc at_ => match step A c pc at_ with
    | (c', .fail) => .inl (c', .pop)
    | (c', .done) => .inr (.found c'.notes)
    | (c', .to p a) => .inl (c', .go p a)
def iter (A : Nat → Nat → Act) : Nat → Cf → Ph → Option Res
  | 0, _, _ => none
  | N + 1, c, ph => match next A c ph with
    | .inl (c', ph') => iter A N c' ph'
    | .inr R => some R
/-- The try ends so. -/
def Ends (A : Nat → Nat → Act) (c : Cf) (ph : Ph) (R : Res) : Prop := ∃ N, iter A N c ph = some R
theorem Ends.on {A : Nat → Nat → Act} {c c' : Cf} {ph ph' : Ph} {R : Res} (h : next A c ph = .inl (c', ph')) : Ends A c' ph' R → Ends A c ph R := by
  rintro ⟨N, hN⟩
  exact ⟨N + 1, by rw [iter, h]; exact hN⟩
theorem Ends.off {A : Nat → Nat → Act} {c c' : Cf} {ph ph' : Ph} {R : Res} (h : next A c ph = .inl (c', ph')) (he : Ends A c ph R) : Ends A c' ph' R := by
  obtain ⟨N, hN⟩ := he
  cases N with
  | zero => cases hN
  | succ N => rw [iter, h] at hN; exact ⟨N, hN⟩
theorem Ends.stop {A : Nat → Nat → Act} {c : Cf} {ph : Ph} {R R' : Res} (h : next A c ph = .inr R') (he : Ends A c ph R) : R' = R := by
  obtain ⟨N, hN⟩ := he
  cases N with
  | zero => cases hN
  | succ N => rw [iter, h] at hN; exact Option.some.inj hN
theorem Ends.now {A : Nat → Nat → Act} {c : Cf} {ph : Ph} {R : Res} (h : next A c ph = .inr R) : Ends A c ph R := ⟨1, by rw [iter, h]⟩

/-- What is left to show behind a try. -/
def Comes (A : Nat → Nat → Act) (S' : Seen) (ways : List W) (nt : List Int) (R : Res) : Option (List Int) → Prop
  | some nt' => R = .found nt'
  | none => Ends A ⟨S', ways, nt⟩ .pop R
/-- Step by step, a try comes to what it comes to. -/
theorem ends_exp {A : Nat → Nat → Act} {S S' : Seen} {pc at_ : Nat} {nt : List Int} {r : Option (List Int)} (h : Exp A S pc at_ nt S' r) :
    ∀ (ways : List W) (R : Res), Comes A S' ways nt R r → Ends A ⟨S, ways, nt⟩ (.go pc at_) R := by
  induction h with
  | old S pc at_ nt h =>
    intro ways R hR
    exact Ends.on (by simp [next, step, h]) hR
  | done S pc at_ nt h h1 =>
    intro ways R hR
    have hR : R = .found nt := hR
    rw [hR]
    exact Ends.now (by simp [next, step, h, h1])
  | fail S pc at_ nt h h1 =>
    intro ways R hR
    exact Ends.on (by simp [next, step, h, h1]) hR
  | to S S' pc at_ p a nt r h h1 h3 ih =>
    intro ways R hR
    exact Ends.on (by simp [next, step, h, h1]) (ih ways R hR)
  | save S S' pc at_ x nt r h h1 h3 ih =>
    intro ways R hR
    refine Ends.on (by simp [next, step, h, h1]) (ih (.back x (nt.getD x (-1)) :: ways) R ?_)
    cases r with
    | some nt' => exact hR
    | none =>
      refine Ends.on (c' := ⟨S', ways, nt⟩) (ph' := .pop) ?_ hR
      simp only [next]
      congr 3
      rw [List.set_set]
      apply List.ext_getElem?
      intro k
      rw [List.getElem?_set]
      split
      · rename_i hk
        subst hk
        split
        · rename_i hl
          rw [List.getD_eq_getElem?_getD, List.getElem?_eq_getElem hl]; rfl
        · rename_i hl
          rw [List.getElem?_eq_none (by omega)]
      · rfl
  | here S S' pc at_ p q nt r h h1 h3 ih =>
    intro ways R hR
    exact Ends.on (by simp [next, step, h, h1]) (ih (.fwd q at_ :: ways) R hR)
  | there S S' S'' pc at_ p q nt r h h1 h3 h4 ih ih2 =>
    intro ways R hR
    refine Ends.on (by simp [next, step, h, h1]) (ih (.fwd q at_ :: ways) R ?_)
    exact Ends.on (c' := ⟨S', ways, nt⟩) (ph' := .go q at_) rfl (ih2 ways R hR)
/-- What a try from a place comes to, with nothing left but this. -/
def resOf (S : Seen) (nt : List Int) : Option (List Int) → Res
  | some r => .found r
  | none => .lost S nt
theorem ends_run {A : Nat → Nat → Act} {S S' : Seen} {at_ : Nat} {nt : List Int} {r : Option (List Int)} (h : Exp A S 0 at_ nt S' r) : Ends A ⟨S, [.fwd 0 at_], nt⟩ .pop (resOf S' nt r) := by
  refine Ends.on (c' := ⟨S, [], nt⟩) (ph' := .go 0 at_) rfl (ends_exp h [] _ ?_)
  cases r with
  | some r => rfl
  | none => exact Ends.now rfl

/-- Find: tries from one place on, one behind the other. -/
inductive Finds (A : Nat → Nat → Act) (n : Nat) (nt : List Int) : Seen → Nat → Option (List Int) → Prop
  | out (S : Seen) (at_ : Nat) : n < at_ → Finds A n nt S at_ none
  | hit (S S' : Seen) (at_ : Nat) (r : List Int) : at_ ≤ n → Exp A S 0 at_ nt S' (some r) → Finds A n nt S at_ (some r)
  | miss (S S' : Seen) (at_ : Nat) (r : Option (List Int)) : at_ ≤ n → Exp A S 0 at_ nt S' none → Finds A n nt S' (at_ + 1) r → Finds A n nt S at_ r
/-- A try from a place, as the first one. -/
def Tries (A : Nat → Nat → Act) (nt : List Int) (p : Nat) (r : Option (List Int)) : Prop := ∃ S, Exp A (fun _ _ => false) 0 p nt S r
/-- The first place from one on, of those up to n, that a try finds. -/
def First (A : Nat → Nat → Act) (n : Nat) (nt : List Int) (at_ : Nat) : Option (List Int) → Prop
  | none => ∀ p, at_ ≤ p → p ≤ n → Tries A nt p none
  | some r => ∃ p, at_ ≤ p ∧ p ≤ n ∧ Tries A nt p (some r) ∧ ∀ q, at_ ≤ q → q < p → Tries A nt q none
theorem tries_one {A : Nat → Nat → Act} {nt : List Int} {p : Nat} {r r' : Option (List Int)} (h : Tries A nt p r) (h' : Tries A nt p r') : r = r' := by
  obtain ⟨S, h⟩ := h
  obtain ⟨S', h'⟩ := h'
  exact (exp_one h h').2
theorem finds_first {A : Nat → Nat → Act} {m n : Nat} {nt : List Int} (hA : Valid A m (n + 1)) (hm : 0 < m) {S : Seen} {at_ : Nat} {r : Option (List Int)} (h : Finds A n nt S at_ r) : Shut A S → First A n nt at_ r := by
  induction h with
  | out S at_ h => exact fun _ p h1 h2 => by omega
  | hit S S' at_ r h h1 =>
    intro hs
    exact ⟨at_, Nat.le_refl _, h, exp_fresh hA h1 hs hm (by omega), fun q h3 h4 => by omega⟩
  | miss S S' at_ r h h1 h2 ih =>
    intro hs
    have h3 := ih (shut_exp h1 hs)
    have h4 : Tries A nt at_ none := exp_fresh hA h1 hs hm (by omega)
    cases r with
    | none =>
      intro p hp1 hp2
      rcases Nat.lt_or_ge at_ p with h5 | h5
      · exact h3 p (by omega) hp2
      · have : p = at_ := by omega
        subst this; exact h4
    | some r =>
      obtain ⟨p, h5, h6, h7, h8⟩ := h3
      refine ⟨p, by omega, h6, h7, fun q h9 h10 => ?_⟩
      rcases Nat.lt_or_ge at_ q with h11 | h11
      · exact h8 q (by omega) h10
      · have : q = at_ := by omega
        subst this; exact h4
theorem first_one {A : Nat → Nat → Act} {n : Nat} {nt : List Int} {at_ : Nat} {r r' : Option (List Int)} (h : First A n nt at_ r) (h' : First A n nt at_ r') : r = r' := by
  cases r with
  | none =>
    cases r' with
    | none => rfl
    | some r' =>
      obtain ⟨p, h1, h2, h3, -⟩ := h'
      cases tries_one (h p h1 h2) h3
  | some r =>
    obtain ⟨p, h1, h2, h3, h4⟩ := h
    cases r' with
    | none => cases tries_one (h' p h1 h2) h3
    | some r' =>
      obtain ⟨p', h1', h2', h3', h4'⟩ := h'
      rcases Nat.lt_trichotomy p p' with h5 | h5 | h5
      · cases tries_one (h4' p h1 h5) h3
      · subst h5
        exact tries_one h3 h3'
      · cases tries_one (h4 p' h1' h5) h3'
theorem finds_total {A : Nat → Nat → Act} {m n : Nat} {nt : List Int} (hA : Valid A m (n + 1)) (hm : 0 < m) : ∀ (N : Nat) (S : Seen) (at_ : Nat), n + 1 - at_ ≤ N → ∃ r, Finds A n nt S at_ r
  | 0, S, at_, h => ⟨none, .out S at_ (by omega)⟩
  | N + 1, S, at_, h => by
    rcases Nat.lt_or_ge n at_ with h1 | h1
    · exact ⟨none, .out S at_ h1⟩
    · obtain ⟨S', r, h2, -⟩ := exp_total hA _ S 0 at_ nt (Nat.le_refl _) hm (by omega)
      cases r with
      | some r => exact ⟨some r, .hit S S' at_ r h1 h2⟩
      | none =>
        obtain ⟨r, h3⟩ := finds_total hA hm N S' (at_ + 1) (by omega)
        exact ⟨r, .miss S S' at_ r h1 h2 h3⟩
theorem find_all {A : Nat → Nat → Act} {m n : Nat} {nt : List Int} (hA : Valid A m (n + 1)) (hm : 0 < m) (at_ : Nat) : ∃ r, Finds A n nt (fun _ _ => false) at_ r ∧ First A n nt at_ r := by
  obtain ⟨r, h⟩ := finds_total (nt := nt) hA hm _ (fun _ _ => false) at_ (Nat.le_refl _)
  exact ⟨r, h, finds_first hA hm h (shut_none A)⟩
/-- Found from a place: found from each place between. -/
theorem first_between {A : Nat → Nat → Act} {n : Nat} {nt r : List Int} {at_ p : Nat} (h : First A n nt at_ (some r)) (hr : ∀ q, Tries A nt q (some r) → p ≤ q) (hp : at_ ≤ p) : First A n nt p (some r) := by
  obtain ⟨q, h1, h2, h3, h4⟩ := h
  exact ⟨q, hr q h3, h2, h3, fun q' h5 h6 => h4 q' (by omega) h6⟩
end Go.Proofs.Ytfblkahjefdmaaa.MX
