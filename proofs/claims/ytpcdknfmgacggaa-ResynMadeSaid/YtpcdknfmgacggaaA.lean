/- For ResynMadeS: what the texts XReP XReL XReR XReW XPgP XPgT XPgF XTpN XTaM of wip/tpl say. -/
namespace Go.Proofs.Ytpcdknfmgacggaa
namespace RX
/-- A node of a regular text's tree. -/
structure ReN where
  kind : Int
  deep : Int
  lo : Int
  hi : Int
  lazy : Bool
  neg : Bool
  set : List Int
/-- The reader's state behind its text. -/
structure St where
  at_ : Nat
  op : Nat
  caps : Nat
  code : Int
  bat : Int
def node (kind lo hi : Int) (lazy neg : Bool) (set : List Int) : ReN := ⟨kind, 0, lo, hi, lazy, neg, set⟩
def ReN.down (x : ReN) : ReN := { x with deep := x.deep + 1 }
def St.bump (st : St) (n : Nat) : St := { st with at_ := st.at_ + n }
def St.fail (st : St) (code bat : Int) : St := if st.code = 0 then { st with code := code, bat := bat } else st
def St.ok (st : St) : Bool := st.code == 0
def nxt (s : List Int) (st : St) (n : Nat) : Int := (s[st.at_ + n]?).getD (-1)
def under (top : ReN) (parts : List (List ReN)) : List ReN := top :: (parts.flatten.map ReN.down)
def within (r a b : Int) : Bool := decide (a ≤ r) && decide (r ≤ b)
def isSign (r : Int) : Bool := decide (0 ≤ r) && decide (r ≤ 1114111) && (decide (r < 55296) || decide (57343 < r))
def classOf (r : Int) : Int :=
  if isSign r = false then 0
  else if r = 9 ∨ r = 32 then 1
  else if r = 10 then 2
  else if r = 215 ∨ r = 247 then 4
  else if within r 97 122 = true ∨ within r 65 90 = true ∨ within r 48 57 = true ∨ r = 95 ∨ within r 192 255 = true then 3
  else 4
def lower (r : Int) : Int := if within r 65 90 = true ∨ (within r 192 222 = true ∧ r ≠ 215) then r + 32 else r
def upper (r : Int) : Int := if within r 97 122 = true ∨ (within r 224 254 = true ∧ r ≠ 247) then r - 32 else r
def sortR (c : Int) : Option (List Int) :=
  if c = 100 then some [48, 57]
  else if c = 119 then some [97, 122, 65, 90, 48, 57, 95, 95]
  else if c = 115 then some [32, 32, 9, 9, 10, 10]
  else none
def signR (c : Int) : Option Int :=
  if c = 110 then some 10 else if c = 116 then some 9 else if c = -1 then none
  else if classOf c = 4 ∨ classOf c = 1 then some c else none
def escaped (s : List Int) (st0 : St) : List ReN × St :=
  let st := st0.bump 1
  let c := nxt s st 0
  match sortR c with
  | some l => ([node 2 0 0 false false l], st.bump 1)
  | none => match sortR (lower c) with
    | some l => ([node 2 0 0 false true l], st.bump 1)
    | none => match signR c with
      | some x => ([node 2 0 0 false false [x, x]], st.bump 1)
      | none => ([], st.fail 5 st.at_)
def member (s : List Int) (st : St) : Int × Option (List Int) × St :=
  let c := nxt s st 0
  if c = -1 ∨ c = 93 then (0, none, st.fail 5 st.at_)
  else if c = 92 then
    let st1 := st.bump 1
    let d := nxt s st1 0
    if sortR d = none ∧ signR d = none then (0, none, st1.fail 5 st1.at_)
    else ((signR d).getD 0, sortR d, st1.bump 1)
  else (c, none, st.bump 1)
def ranged (s : List Int) (st : St) : Bool :=
  if nxt s st 0 = 45 then
    let c := nxt s st 1
    decide (c ≠ -1) && decide (c ≠ 93) && (decide (c ≠ 92) || (sortR (nxt s st 2)).isNone)
  else false
/-- One round of a class: the set, the state. -/
def classRound (s : List Int) (st : St) (set : List Int) : List Int × St :=
  let m := member s st
  match m.2.1 with
  | some l => (set ++ l, m.2.2)
  | none =>
    let b : Int × St := if m.2.2.ok && ranged s m.2.2 then ((member s (m.2.2.bump 1)).1, (member s (m.2.2.bump 1)).2.2) else (m.1, m.2.2)
    (set ++ [m.1, b.1], if b.2.ok = true ∧ b.1 < m.1 then b.2.fail 5 st.at_ else b.2)
def classLoop (s : List Int) : Nat → St → List Int → List Int × St
  | 0, st, set => (set, st)
  | n + 1, st, set => if st.ok && (set.isEmpty || decide (nxt s st 0 ≠ 93)) then classLoop s n (classRound s st set).2 (classRound s st set).1 else (set, st)
def classP (s : List Int) (st : St) : List ReN × St :=
  let neg := decide (nxt s st 0 = 94)
  let st1 := if neg then st.bump 1 else st
  let r := classLoop s (s.length + 2 - st1.at_) st1 []
  ([node 2 0 0 false neg r.1], r.2.bump 1)
def digit (c : Int) : Int := if c < 48 ∨ 57 < c then -1 else c - 48
def must (s : List Int) (st : St) : Int × St :=
  if digit (nxt s st 0) < 0 then (0, st.fail 5 st.at_) else (digit (nxt s st 0), st.bump 1)
/-- What follows a repeat's low bound. -/
def high (s : List Int) (lo : Int) (st : St) : Int × St :=
  if st.ok = true ∧ nxt s st 0 = 44 then
    (if nxt s (st.bump 1) 0 ≠ 125 then must s (st.bump 1) else (-1, st.bump 1))
  else (lo, st)
def bounds (s : List Int) (st : St) : Int × Int × St :=
  let a := must s (st.bump 1)
  let b := high s a.1 a.2
  let st1 := (if b.2.ok = true ∧ nxt s b.2 0 ≠ 125 then b.2.fail 5 b.2.at_ else b.2).bump 1
  (a.1, b.1, if st1.ok = true ∧ 0 ≤ b.1 ∧ b.1 < a.1 then st1.fail 5 st.at_ else st1)
/-- The node of a repeat that comes; none: none comes. -/
def repTop (s : List Int) (st : St) : Option (Int × Int × St) :=
  let c := nxt s st 0
  if c = 43 then some (1, -1, st.bump 1)
  else if c = 42 then some (0, -1, st.bump 1)
  else if c = 63 then some (0, 1, st.bump 1)
  else if c = 123 then some ((bounds s st).1, (bounds s st).2.1, (bounds s st).2.2)
  else none
def repeatP (s : List Int) (atom : List ReN) (st : St) : List ReN × St :=
  match repTop s st with
  | none => (atom, st)
  | some (lo, hi, st1) =>
    let lz := st1.ok && decide (nxt s st1 0 = 63)
    (under (node 6 lo hi lz false []) [atom], if lz then st1.bump 1 else st1)
section
variable (s : List Int) (alt : St → List ReN × St)
def groupIn (n : Int) (st : St) : List ReN × St :=
  let r := alt { st with op := st.op + 1 }
  let st1 : St := { r.2 with op := r.2.op - 1 }
  let st2 := if st1.ok = true ∧ nxt s st1 0 ≠ 41 then st1.fail 5 st1.at_ else st1
  (under (node 5 n 0 false false []) [r.1], st2.bump 1)
def groupP (st : St) : List ReN × St :=
  if 12 ≤ st.op then ([], st.fail 6 st.at_)
  else if nxt s st 1 = 63 ∧ nxt s st 2 = 58 then groupIn s alt 0 (st.bump 3)
  else if nxt s st 1 = 63 then ([], st.fail 5 (st.at_ + 2))
  else if 9 ≤ st.caps then ([], st.fail 3 st.at_)
  else groupIn s alt (st.caps + 1) { st.bump 1 with caps := st.caps + 1 }
def atomP (st : St) : List ReN × St :=
  let c := nxt s st 0
  if c = 42 ∨ c = 43 ∨ c = 63 ∨ c = 123 then ([], st.fail 5 st.at_)
  else if c = 40 then groupP s alt st
  else if c = 91 then classP s (st.bump 1)
  else if c = 92 then escaped s st
  else if c = 46 then ([node 2 0 0 false true [10, 10]], st.bump 1)
  else ([node 2 0 0 false false [c, c]], st.bump 1)
def itemP (st : St) : List ReN × St :=
  let c := nxt s st 0
  if c = 94 then ([node 3 0 0 false false []], st.bump 1)
  else if c = 36 then ([node 4 0 0 false false []], st.bump 1)
  else
    let a := atomP s alt st
    if a.2.ok then repeatP s a.1 a.2 else ([], a.2)
def rowEnds (c : Int) : Bool := decide (c = -1) || decide (c = 124) || decide (c = 41)
def rowLoop : Nat → St → List (List ReN) → List ReN × St
  | 0, st, _ => ([], st)
  | n + 1, st, items =>
    if st.ok then
      if rowEnds (nxt s st 0) then (under (node 0 0 0 false false []) items, st)
      else rowLoop n (itemP s alt st).2 (items ++ [(itemP s alt st).1])
    else ([], st)
def rowP (st : St) : List ReN × St := rowLoop s alt (s.length + 2 - st.at_) st []
def altLoop : Nat → St → List (List ReN) → List (List ReN) × St
  | 0, st, rows => (rows, st)
  | n + 1, st, rows =>
    if st.ok && decide (nxt s st 0 = 124) then altLoop n (rowP s alt (st.bump 1)).2 (rows ++ [(rowP s alt (st.bump 1)).1]) else (rows, st)
def altP (st : St) : List ReN × St :=
  let r := rowP s alt st
  let q := altLoop s alt (s.length + 2 - r.2.at_) r.2 [r.1]
  (if q.1.length = 1 then q.1.headD [] else under (node 1 0 0 false false []) q.1, q.2)
end
def altN (s : List Int) : Nat → St → List ReN × St
  | 0 => altP s (fun st => ([], st))
  | n + 1 => altP s (altN s n)
def firstBad (s : List Int) : Nat → Option Nat
  | i => (s.findIdx? fun c => classOf c == 0).map (· + i)
/-- What Parse returns: the tree, the fault's code and place. -/
def parse (s : List Int) : List ReN × Int × Int :=
  if 60 < s.length then ([], 3, 60)
  else match s.findIdx? (fun c => classOf c == 0) with
  | some i => ([], 1, i)
  | none =>
    let r := altN s 12 ⟨0, 0, 0, 0, 0⟩
    let st := if r.2.ok = true ∧ r.2.at_ < s.length then r.2.fail 5 r.2.at_ else r.2
    if st.ok then (r.1, 0, 0) else ([], st.code, st.bat)
def groups (l : List ReN) : Nat := (l.filter fun x => decide (x.kind = 5) && decide (0 < x.lo)).length
theorem St.fail_ok {c b : Int} (st : St) (h : c ≠ 0) : (st.fail c b).ok = false := by
  unfold St.fail St.ok; split
  · simpa using h
  · rename_i h1; simpa using h1
theorem St.fail_at (c b : Int) (st : St) : (st.fail c b).at_ = st.at_ := by unfold St.fail; split <;> rfl
theorem St.fail_op (c b : Int) (st : St) : (st.fail c b).op = st.op := by unfold St.fail; split <;> rfl
theorem St.fail_caps (c b : Int) (st : St) : (st.fail c b).caps = st.caps := by unfold St.fail; split <;> rfl
theorem nxt_in {s : List Int} {st : St} {k : Nat} (h : nxt s st k ≠ -1) : st.at_ + k < s.length := by
  rcases Nat.lt_or_ge (st.at_ + k) s.length with h1 | h1
  · exact h1
  · exact absurd (by unfold nxt; rw [List.getElem?_eq_none h1]; rfl) h
/-- A step of the reader: how far it goes. -/
structure Fwd (s : List Int) (c : Nat) (st st' : St) : Prop where
  mono : st.at_ ≤ st'.at_
  hi : st'.at_ ≤ s.length + c
  okl : st'.ok = true → st'.at_ ≤ s.length
  op : st'.op = st.op
  caps0 : st.caps ≤ st'.caps
  caps9 : st'.caps ≤ 9
theorem Fwd.refl {s : List Int} {st : St} (c : Nat) (ha : st.at_ ≤ s.length) (h9 : st.caps ≤ 9) : Fwd s c st st :=
  ⟨Nat.le_refl _, by omega, fun _ => ha, rfl, Nat.le_refl _, h9⟩
theorem Fwd.mono_c {s : List Int} {c d : Nat} {st st' : St} (h : Fwd s c st st') (hcd : c ≤ d) : Fwd s d st st' :=
  ⟨h.mono, by have := h.hi; omega, h.okl, h.op, h.caps0, h.caps9⟩
theorem Fwd.trans {s : List Int} {c : Nat} {a b d : St} (h : Fwd s c a b) (k : Fwd s c b d) : Fwd s c a d :=
  ⟨Nat.le_trans h.mono k.mono, k.hi, k.okl, k.op.trans h.op, Nat.le_trans h.caps0 k.caps0, k.caps9⟩
theorem Fwd.fail {s : List Int} {c : Nat} {st st' : St} (h : Fwd s c st st') {e b : Int} (he : e ≠ 0) : Fwd s c st (st'.fail e b) where
  mono := by rw [St.fail_at]; exact h.mono
  hi := by rw [St.fail_at]; exact h.hi
  okl := by rw [St.fail_ok _ he]; exact (fun h => nomatch h)
  op := by rw [St.fail_op]; exact h.op
  caps0 := by rw [St.fail_caps]; exact h.caps0
  caps9 := by rw [St.fail_caps]; exact h.caps9
theorem Fwd.bump {s : List Int} {c : Nat} {st st' : St} (h : Fwd s c st st') (n : Nat) (hn : st'.at_ + n ≤ s.length) : Fwd s c st (st'.bump n) :=
  ⟨Nat.le_trans h.mono (Nat.le_add_right _ _), by show st'.at_ + n ≤ _; omega, fun _ => hn, h.op, h.caps0, h.caps9⟩
/-- One sign further, where something may be wrong already. -/
theorem Fwd.bump1 {s : List Int} {c : Nat} {st st' : St} (h : Fwd s c st st') (hn : st'.ok = true → st'.at_ < s.length) : Fwd s (c + 1) st (st'.bump 1) :=
  ⟨Nat.le_trans h.mono (Nat.le_add_right _ _), by have := h.hi; show st'.at_ + 1 ≤ _; omega, fun ho => hn ho, h.op, h.caps0, h.caps9⟩
theorem sort_ne {c : Int} {l : List Int} (h : sortR c = some l) : c ≠ -1 := by rintro rfl; simp [sortR] at h
theorem lower_ne {c : Int} {l : List Int} (h : sortR (lower c) = some l) : c ≠ -1 := by rintro rfl; simp [sortR, lower, within] at h
theorem sign_ne {c x : Int} (h : signR c = some x) : c ≠ -1 := by rintro rfl; simp [signR] at h
theorem sort_len {c : Int} {l : List Int} (h : sortR c = some l) : 1 ≤ l.length ∧ l.length ≤ 8 ∧ l.length % 2 = 0 := by
  unfold sortR at h
  split at h
  · injection h with h; subst h; simp
  · split at h
    · injection h with h; subst h; simp
    · split at h
      · injection h with h; subst h; simp
      · cases h
section
variable {s : List Int}
theorem escaped_fwd {st : St} (ha : st.at_ < s.length) (h9 : st.caps ≤ 9) : Fwd s 0 st (escaped s st).2 := by
  have h0 : Fwd s 0 st (st.bump 1) := (Fwd.refl 0 (Nat.le_of_lt ha) h9).bump 1 ha
  unfold escaped
  simp only
  split
  · rename_i l hl; exact h0.bump 1 (nxt_in (sort_ne hl))
  · split
    · rename_i l hl; exact h0.bump 1 (nxt_in (lower_ne hl))
    · split
      · rename_i x hx; exact h0.bump 1 (nxt_in (sign_ne hx))
      · exact h0.fail (by decide)
theorem escaped_len (st : St) : (escaped s st).1.length ≤ 1 ∧ ∀ x ∈ (escaped s st).1, x.deep = 0 := by
  unfold escaped
  simp only
  split
  · simp [node]
  · split
    · simp [node]
    · split <;> simp [node]
theorem escaped_more (st : St) : st.at_ + 1 ≤ (escaped s st).2.at_ := by
  unfold escaped
  simp only
  split
  · show _ ≤ st.at_ + 1 + 1; omega
  · split
    · show _ ≤ st.at_ + 1 + 1; omega
    · split
      · show _ ≤ st.at_ + 1 + 1; omega
      · rw [St.fail_at]; exact Nat.le_refl _
theorem member_fwd {st : St} (ha : st.at_ ≤ s.length) (h9 : st.caps ≤ 9) : Fwd s 0 st (member s st).2.2 := by
  have h0 : Fwd s 0 st st := Fwd.refl 0 ha h9
  unfold member
  simp only
  split
  · exact h0.fail (by decide)
  · rename_i h
    have hl := nxt_in (s := s) (st := st) (k := 0) (fun h1 => h (.inl h1))
    have h1 := h0.bump 1 hl
    split
    · split
      · exact h1.fail (by decide)
      · rename_i h2
        refine h1.bump 1 (nxt_in (k := 0) fun h3 => h2 ?_)
        rw [h3]; exact ⟨by simp [sortR], by simp [signR]⟩
    · exact h1
/-- A member that is read goes on. -/
theorem member_more {st : St} (h : (member s st).2.2.ok = true) : st.at_ + 1 ≤ (member s st).2.2.at_ := by
  unfold member at h ⊢
  simp only at h ⊢
  split at h
  · rw [St.fail_ok _ (by decide)] at h; cases h
  · rename_i h0
    rw [if_neg h0]
    split at h
    · rename_i h1
      rw [if_pos h1]
      split at h
      · rw [St.fail_ok _ (by decide)] at h; cases h
      · rename_i h2
        rw [if_neg h2]; show _ ≤ st.at_ + 1 + 1; omega
    · rename_i h1
      rw [if_neg h1]; exact Nat.le_refl _
theorem member_sort {st : St} {l : List Int} (h : (member s st).2.1 = some l) : 1 ≤ l.length ∧ l.length ≤ 8 ∧ l.length % 2 = 0 := by
  unfold member at h
  simp only at h
  split at h
  · cases h
  · split at h
    · split at h
      · cases h
      · exact sort_len h
    · cases h
theorem ranged_ne {st : St} (h : ranged s st = true) : st.at_ + 1 < s.length := by
  unfold ranged at h
  split at h
  · simp only [Bool.and_eq_true, decide_eq_true_eq] at h
    exact nxt_in h.1.1
  · cases h
theorem classRound_sort {st : St} {set l : List Int} (h : (member s st).2.1 = some l) : classRound s st set = (set ++ l, (member s st).2.2) := by
  unfold classRound; simp only [h]
def rangeEnd (s : List Int) (st : St) : Int × St :=
  if (member s st).2.2.ok && ranged s (member s st).2.2 then ((member s ((member s st).2.2.bump 1)).1, (member s ((member s st).2.2.bump 1)).2.2) else ((member s st).1, (member s st).2.2)
theorem classRound_one {st : St} {set : List Int} (h : (member s st).2.1 = none) : classRound s st set = (set ++ [(member s st).1, (rangeEnd s st).1], if (rangeEnd s st).2.ok = true ∧ (rangeEnd s st).1 < (member s st).1 then (rangeEnd s st).2.fail 5 st.at_ else (rangeEnd s st).2) := by
  unfold classRound rangeEnd; simp only [h]
theorem rangeEnd_fwd {st : St} (ha : st.at_ ≤ s.length) (h9 : st.caps ≤ 9) : Fwd s 0 st (rangeEnd s st).2 := by
  have h0 := member_fwd (s := s) ha h9
  unfold rangeEnd
  split
  · rename_i h
    simp only [Bool.and_eq_true] at h
    have hr := ranged_ne h.2
    have h1 := h0.bump 1 (by omega)
    exact h1.trans (member_fwd (st := (member s st).2.2.bump 1) (by show (member s st).2.2.at_ + 1 ≤ _; omega) h1.caps9)
  · exact h0
theorem rangeEnd_more {st : St} (ha : st.at_ ≤ s.length) (h9 : st.caps ≤ 9) (h : (rangeEnd s st).2.ok = true) : st.at_ + 1 ≤ (rangeEnd s st).2.at_ := by
  unfold rangeEnd at h ⊢
  split at h
  · rename_i h3
    rw [if_pos h3]
    simp only [Bool.and_eq_true] at h3
    have hr := ranged_ne h3.2
    have h1 := member_more h3.1
    have h4 := (member_fwd (s := s) ha h9).bump 1 (show (member s st).2.2.at_ + 1 ≤ s.length by omega)
    have h5 := (member_fwd (s := s) (st := (member s st).2.2.bump 1) (by show (member s st).2.2.at_ + 1 ≤ _; omega) h4.caps9).mono
    have : (member s st).2.2.at_ + 1 ≤ (member s ((member s st).2.2.bump 1)).2.2.at_ := h5
    show st.at_ + 1 ≤ (member s ((member s st).2.2.bump 1)).2.2.at_
    omega
  · rename_i h3
    rw [if_neg h3]; exact member_more h
theorem classRound_fwd {st : St} {set : List Int} (ha : st.at_ ≤ s.length) (h9 : st.caps ≤ 9) : Fwd s 0 st (classRound s st set).2 := by
  rcases hm : (member s st).2.1 with _ | l
  · rw [classRound_one hm]
    have h := rangeEnd_fwd (s := s) ha h9
    simp only
    split
    · exact h.fail (by decide)
    · exact h
  · rw [classRound_sort hm]; exact member_fwd ha h9
theorem classRound_more {st : St} {set : List Int} (ha : st.at_ ≤ s.length) (h9 : st.caps ≤ 9) (h : (classRound s st set).2.ok = true) : st.at_ + 1 ≤ (classRound s st set).2.at_ := by
  rcases hm : (member s st).2.1 with _ | l
  · rw [classRound_one hm] at h ⊢
    simp only at h ⊢
    split at h
    · rw [St.fail_ok _ (by decide)] at h; cases h
    · rename_i h2
      rw [if_neg h2]; exact rangeEnd_more ha h9 h
  · rw [classRound_sort hm] at h ⊢; exact member_more h
theorem classRound_len (st : St) (set : List Int) : (classRound s st set).1.length ≤ set.length + 8 ∧ set.length + 1 ≤ (classRound s st set).1.length ∧ (classRound s st set).1.length % 2 = set.length % 2 := by
  rcases hm : (member s st).2.1 with _ | l
  · rw [classRound_one hm]
    simp only [List.length_append, List.length_cons, List.length_nil]; omega
  · rw [classRound_sort hm]
    have := member_sort hm
    simp only [List.length_append]; omega
theorem classLoop_off {n : Nat} {st : St} {set : List Int} (h : (st.ok && (set.isEmpty || decide (nxt s st 0 ≠ 93))) = false) : classLoop s n st set = (set, st) := by
  cases n with
  | zero => rfl
  | succ n => unfold classLoop; rw [h]; rfl
theorem classLoop_on {n : Nat} {st : St} {set : List Int} (h : (st.ok && (set.isEmpty || decide (nxt s st 0 ≠ 93))) = true) : classLoop s (n + 1) st set = classLoop s n (classRound s st set).2 (classRound s st set).1 := by
  rw [classLoop, if_pos h]
theorem classLoop_fwd : ∀ (n : Nat) {st : St} {set : List Int}, st.at_ ≤ s.length → st.caps ≤ 9 → Fwd s 0 st (classLoop s n st set).2
  | 0, _, _, ha, h9 => Fwd.refl 0 ha h9
  | n + 1, st, set, ha, h9 => by
    rcases hc : (st.ok && (set.isEmpty || decide (nxt s st 0 ≠ 93))) with _ | _
    · rw [classLoop_off hc]; exact Fwd.refl 0 ha h9
    · rw [classLoop_on hc]
      have h := classRound_fwd (set := set) ha h9
      rcases hok : (classRound s st set).2.ok with _ | _
      · rw [classLoop_off (by rw [hok]; rfl)]; exact h
      · exact h.trans (classLoop_fwd n (h.okl hok) h.caps9)
/-- Where nothing was wrong the loop has come to a ]. -/
theorem classLoop_end : ∀ (n : Nat) {st : St} {set : List Int}, st.at_ ≤ s.length → st.caps ≤ 9 → s.length + 1 ≤ n + st.at_ → (classLoop s n st set).2.ok = true → nxt s (classLoop s n st set).2 0 = 93 ∧ (classLoop s n st set).1 ≠ []
  | 0, _, _, ha, _, hn, _ => by omega
  | n + 1, st, set, ha, h9, hn, hok => by
    rcases hc : (st.ok && (set.isEmpty || decide (nxt s st 0 ≠ 93))) with _ | _
    · rw [classLoop_off hc] at hok ⊢
      have hok : st.ok = true := hok
      rw [hok] at hc
      simp at hc
      refine ⟨hc.2, ?_⟩
      intro h
      have h : set = [] := h
      rw [h] at hc; simp at hc
    · rw [classLoop_on hc] at hok ⊢
      have h := classRound_fwd (set := set) ha h9
      rcases ho : (classRound s st set).2.ok with _ | _
      · rw [classLoop_off (by rw [ho]; rfl)] at hok
        have hok : (classRound s st set).2.ok = true := hok
        rw [ho] at hok; cases hok
      · have h1 := classRound_more (set := set) ha h9 ho
        exact classLoop_end n (h.okl ho) h.caps9 (by omega) hok
theorem classLoop_len : ∀ (n : Nat) (st : St) (set : List Int), (classLoop s n st set).1.length ≤ set.length + 8 * n ∧ (classLoop s n st set).1.length % 2 = set.length % 2
  | 0, _, set => ⟨Nat.le_refl _, rfl⟩
  | n + 1, st, set => by
    rcases hc : (st.ok && (set.isEmpty || decide (nxt s st 0 ≠ 93))) with _ | _
    · rw [classLoop_off hc]; exact ⟨Nat.le_add_right _ _, rfl⟩
    · rw [classLoop_on hc]
      have h1 := classRound_len (s := s) st set
      have h2 := classLoop_len n (classRound s st set).2 (classRound s st set).1
      omega
theorem classP_fwd {st : St} (ha : st.at_ ≤ s.length) (h9 : st.caps ≤ 9) : Fwd s 1 st (classP s st).2 := by
  unfold classP
  simp only
  have h0 : Fwd s 0 st (if decide (nxt s st 0 = 94) = true then st.bump 1 else st) := by
    split
    · rename_i h
      have h : nxt s st 0 = 94 := of_decide_eq_true h
      exact (Fwd.refl 0 ha h9).bump 1 (nxt_in (k := 0) (by omega))
    · exact Fwd.refl 0 ha h9
  generalize (if decide (nxt s st 0 = 94) = true then st.bump 1 else st) = st1 at h0 ⊢
  have h1 : st1.at_ ≤ s.length := h0.hi
  have h2 := h0.trans (classLoop_fwd (s.length + 2 - st1.at_) (set := []) h1 h0.caps9)
  exact h2.bump1 fun hok => by
    have := nxt_in (k := 0) (s := s) (st := (classLoop s (s.length + 2 - st1.at_) st1 []).2) (by rw [(classLoop_end _ h1 h0.caps9 (by omega) hok).1]; decide)
    exact this
theorem classP_len (st : St) : (classP s st).1.length = 1 ∧ ∀ x ∈ (classP s st).1, x.deep = 0 := by
  unfold classP; simp [node]
theorem classP_more {st : St} (ha : st.at_ ≤ s.length) (h9 : st.caps ≤ 9) : st.at_ ≤ (classP s st).2.at_ := (classP_fwd ha h9).mono
theorem digit_ne {c : Int} (h : ¬ digit c < 0) : c ≠ -1 := by rintro rfl; simp [digit] at h
theorem must_fwd {st : St} (ha : st.at_ ≤ s.length) (h9 : st.caps ≤ 9) : Fwd s 0 st (must s st).2 := by
  unfold must
  split
  · exact (Fwd.refl 0 ha h9).fail (by decide)
  · rename_i h; exact (Fwd.refl 0 ha h9).bump 1 (nxt_in (k := 0) (digit_ne h))
theorem high_fwd {st : St} {lo : Int} (ha : st.at_ ≤ s.length) (h9 : st.caps ≤ 9) : Fwd s 0 st (high s lo st).2 := by
  unfold high
  split
  · rename_i h
    have h1 := (Fwd.refl 0 ha h9).bump 1 (nxt_in (s := s) (k := 0) (st := st) (by omega))
    split
    · exact h1.trans (must_fwd h1.hi h1.caps9)
    · exact h1
  · exact Fwd.refl 0 ha h9
theorem ite_fwd {c : Nat} {p : Prop} [Decidable p] {st a b : St} (h1 : Fwd s c st a) (h2 : Fwd s c st b) : Fwd s c st (if p then a else b) := by split <;> assumption
theorem bounds_fwd {st : St} (ha : st.at_ < s.length) (h9 : st.caps ≤ 9) : Fwd s 1 st (bounds s st).2.2 ∧ st.at_ + 1 ≤ (bounds s st).2.2.at_ := by
  have h0 : Fwd s 0 st (st.bump 1) := (Fwd.refl 0 (Nat.le_of_lt ha) h9).bump 1 ha
  have h1 := h0.trans (must_fwd h0.hi h0.caps9)
  have h2 := h1.trans (high_fwd (lo := (must s (st.bump 1)).1) h1.hi h1.caps9)
  have hm : st.at_ + 1 ≤ (high s (must s (st.bump 1)).1 (must s (st.bump 1)).2).2.at_ :=
    Nat.le_trans (must_fwd (st := st.bump 1) h0.hi h0.caps9).mono (high_fwd (lo := (must s (st.bump 1)).1) (st := (must s (st.bump 1)).2) h1.hi h1.caps9).mono
  unfold bounds
  simp only
  generalize high s (must s (st.bump 1)).1 (must s (st.bump 1)).2 = b at h2 hm
  generalize (must s (st.bump 1)).1 = lo
  have h3 : Fwd s 1 st ((if b.2.ok = true ∧ nxt s b.2 0 ≠ 125 then b.2.fail 5 b.2.at_ else b.2).bump 1) ∧ st.at_ + 1 ≤ ((if b.2.ok = true ∧ nxt s b.2 0 ≠ 125 then b.2.fail 5 b.2.at_ else b.2).bump 1).at_ := by
    split
    · exact ⟨(h2.fail (by decide)).bump1 (by rw [St.fail_ok _ (by decide)]; exact (fun h => nomatch h)), by show _ ≤ (b.2.fail 5 b.2.at_).at_ + 1; rw [St.fail_at]; omega⟩
    · rename_i h
      exact ⟨h2.bump1 fun hok => nxt_in (s := s) (k := 0) (by intro h4; exact h ⟨hok, by rw [h4]; decide⟩), by show _ ≤ b.2.at_ + 1; omega⟩
  generalize (if b.2.ok = true ∧ nxt s b.2 0 ≠ 125 then b.2.fail 5 b.2.at_ else b.2).bump 1 = st1 at h3
  split
  · exact ⟨h3.1.fail (by decide), by rw [St.fail_at]; exact h3.2⟩
  · exact h3
theorem repTop_fwd {st st1 : St} {lo hi : Int} (h : repTop s st = some (lo, hi, st1)) (h9 : st.caps ≤ 9) : Fwd s 1 st st1 ∧ st.at_ + 1 ≤ st1.at_ := by
  unfold repTop at h
  simp only at h
  split at h
  · injection h with h; injection h with _ h; injection h with _ h; subst h
    rename_i h0
    have ha := nxt_in (s := s) (k := 0) (st := st) (by omega)
    exact ⟨((Fwd.refl 0 (Nat.le_of_lt ha) h9).bump 1 ha).mono_c (by omega), Nat.le_refl _⟩
  · split at h
    · injection h with h; injection h with _ h; injection h with _ h; subst h
      rename_i h0
      have ha := nxt_in (s := s) (k := 0) (st := st) (by omega)
      exact ⟨((Fwd.refl 0 (Nat.le_of_lt ha) h9).bump 1 ha).mono_c (by omega), Nat.le_refl _⟩
    · split at h
      · injection h with h; injection h with _ h; injection h with _ h; subst h
        rename_i h0
        have ha := nxt_in (s := s) (k := 0) (st := st) (by omega)
        exact ⟨((Fwd.refl 0 (Nat.le_of_lt ha) h9).bump 1 ha).mono_c (by omega), Nat.le_refl _⟩
      · split at h
        · injection h with h; injection h with _ h; injection h with _ h; subst h
          rename_i h0
          exact bounds_fwd (nxt_in (s := s) (k := 0) (st := st) (by omega)) h9
        · cases h
/-- A tree of at most k nodes, none deeper than d. -/
def Tr (d : Int) (k : Nat) (l : List ReN) : Prop := l.length ≤ k ∧ ∀ x ∈ l, 0 ≤ x.deep ∧ x.deep ≤ d
theorem Tr.nil_ {d : Int} {k : Nat} : Tr d k [] := ⟨Nat.zero_le _, by simp⟩
theorem Tr.mono {d d' : Int} {k k' : Nat} {l : List ReN} (h : Tr d k l) (hd : d ≤ d') (hk : k ≤ k') : Tr d' k' l := ⟨Nat.le_trans h.1 hk, fun x hx => ⟨(h.2 x hx).1, Int.le_trans (h.2 x hx).2 hd⟩⟩
theorem Tr.one {d : Int} {k : Nat} {x : ReN} (h : x.deep = 0) (hd : 0 ≤ d) (hk : 1 ≤ k) : Tr d k [x] := ⟨hk, by intro y hy; simp at hy; subst hy; omega⟩
theorem under_len (top : ReN) (parts : List (List ReN)) : (under top parts).length = 1 + parts.flatten.length := by
  simp only [under, List.length_cons, List.length_map]; omega
theorem under_tr {d : Int} {top : ReN} {parts : List (List ReN)} (ht : top.deep = 0) (hd : 0 ≤ d) (h : ∀ l ∈ parts, ∀ x ∈ l, 0 ≤ x.deep ∧ x.deep ≤ d) : Tr (d + 1) (1 + parts.flatten.length) (under top parts) := by
  refine ⟨Nat.le_of_eq (under_len _ _), fun x hx => ?_⟩
  unfold under at hx
  rcases List.mem_cons.1 hx with rfl | hx
  · omega
  · obtain ⟨y, hy, rfl⟩ := List.mem_map.1 hx
    obtain ⟨l, hl, hy⟩ := List.mem_flatten.1 hy
    have := h l hl y hy
    simp only [ReN.down]; omega
theorem under1_tr {d : Int} {k : Nat} {top : ReN} {l : List ReN} (ht : top.deep = 0) (hd : 0 ≤ d) (h : Tr d k l) : Tr (d + 1) (k + 1) (under top [l]) :=
  (under_tr (parts := [l]) ht hd (fun l' hl => by simp at hl; subst hl; exact h.2)).mono (Int.le_refl _) (by have := h.1; simp; omega)
theorem repeatP_fwd {st : St} {atom : List ReN} {d : Int} {k : Nat} (hst : st.at_ ≤ s.length) (h9 : st.caps ≤ 9) (hd : 0 ≤ d) (ha : Tr d k atom) :
    Fwd s 1 st (repeatP s atom st).2 ∧ Tr (d + 1) (k + ((repeatP s atom st).2.at_ - st.at_)) (repeatP s atom st).1 := by
  unfold repeatP
  rcases hr : repTop s st with _ | ⟨lo, hi, st1⟩
  · exact ⟨Fwd.refl 1 hst h9, ha.mono (by omega) (Nat.le_add_right _ _)⟩
  · simp only
    have h := repTop_fwd hr h9
    have h1 := under1_tr (top := node 6 lo hi (st1.ok && decide (nxt s st1 0 = 63)) false []) rfl hd ha
    split
    · rename_i hz
      simp only [Bool.and_eq_true, decide_eq_true_eq] at hz
      have h2 := nxt_in (s := s) (k := 0) (st := st1) (by omega)
      refine ⟨h.1.bump 1 h2, h1.mono (Int.le_refl _) ?_⟩
      show _ ≤ k + (st1.at_ + 1 - st.at_); omega
    · exact ⟨h.1, h1.mono (Int.le_refl _) (by omega)⟩
/-- What the alternatives of a level do. -/
def AltOk (s : List Int) (c : Nat) (d : Int) (alt : St → List ReN × St) : Prop :=
  ∀ st : St, st.ok = true → st.at_ ≤ s.length → st.caps ≤ 9 → Fwd s c st (alt st).2 ∧ Tr d (2 * ((alt st).2.at_ - st.at_) + 2) (alt st).1
theorem AltOk.weak {c c' : Nat} {d d' : Int} {alt : St → List ReN × St} (h : AltOk s c d alt) (hc : c ≤ c') (hd : d ≤ d') : AltOk s c' d' alt := fun st h1 h2 h3 => ⟨(h st h1 h2 h3).1.mono_c hc, (h st h1 h2 h3).2.mono hd (Nat.le_refl _)⟩
theorem AltOk.stub {c : Nat} {d : Int} : AltOk s c d (fun st => ([], st)) := fun _ _ ha h9 => ⟨Fwd.refl c ha h9, Tr.nil_⟩
variable {c : Nat} {d : Int} {alt : St → List ReN × St}
theorem groupIn_fwd {n : Int} {st st0 : St} (halt : AltOk s c d alt) (hd : 0 ≤ d) (hok : st.ok = true) (h0 : Fwd s 0 st0 st) :
    Fwd s (c + 1) st0 (groupIn s alt n st).2 ∧ Tr (d + 1) (2 * ((groupIn s alt n st).2.at_ - st.at_) + 1) (groupIn s alt n st).1 ∧ st.at_ + 1 ≤ (groupIn s alt n st).2.at_ := by
  have h := halt { st with op := st.op + 1 } hok h0.hi h0.caps9
  unfold groupIn
  simp only
  generalize alt { st with op := st.op + 1 } = r at h ⊢
  obtain ⟨h1, h2⟩ := h
  have hm : st.at_ ≤ r.2.at_ := h1.mono
  have hop : r.2.op - 1 = st.op := by rw [h1.op]; exact Nat.add_sub_cancel _ _
  have h3 : Fwd s c st0 { r.2 with op := r.2.op - 1 } := ⟨Nat.le_trans h0.mono h1.mono, h1.hi, h1.okl, by rw [← h0.op]; exact hop, Nat.le_trans h0.caps0 h1.caps0, h1.caps9⟩
  generalize hst1 : ({ r.2 with op := r.2.op - 1 } : St) = st1 at h3 ⊢
  have hat : st1.at_ = r.2.at_ := by rw [← hst1]
  have h4 : Fwd s (c + 1) st0 ((if st1.ok = true ∧ nxt s st1 0 ≠ 41 then st1.fail 5 r.2.at_ else st1).bump 1) ∧ ((if st1.ok = true ∧ nxt s st1 0 ≠ 41 then st1.fail 5 r.2.at_ else st1).bump 1).at_ = r.2.at_ + 1 := by
    split
    · exact ⟨(h3.fail (by decide)).bump1 (by rw [St.fail_ok _ (by decide)]; exact (fun h => nomatch h)), by show (st1.fail 5 r.2.at_).at_ + 1 = _; rw [St.fail_at, hat]⟩
    · rename_i hn
      exact ⟨h3.bump1 fun hok => nxt_in (s := s) (k := 0) (by intro h4; exact hn ⟨hok, by rw [h4]; decide⟩), by show st1.at_ + 1 = _; rw [hat]⟩
  generalize (if st1.ok = true ∧ nxt s st1 0 ≠ 41 then st1.fail 5 r.2.at_ else st1).bump 1 = st2 at h4
  refine ⟨h4.1, (under1_tr rfl hd h2).mono (Int.le_refl _) ?_, ?_⟩
  · rw [h4.2]; show 2 * (r.2.at_ - st.at_) + 2 + 1 ≤ _; omega
  · rw [h4.2]; omega
theorem groupP_fwd {st : St} (halt : AltOk s c d alt) (hd : 0 ≤ d) (hok : st.ok = true) (ha : st.at_ < s.length) (h9 : st.caps ≤ 9) :
    Fwd s (c + 1) st (groupP s alt st).2 ∧ Tr (d + 1) (2 * ((groupP s alt st).2.at_ - st.at_)) (groupP s alt st).1 ∧ ((groupP s alt st).2.ok = true → st.at_ + 1 ≤ (groupP s alt st).2.at_) := by
  have h0 : Fwd s (c + 1) st st := Fwd.refl _ (Nat.le_of_lt ha) h9
  have hf : ∀ e b, e ≠ 0 → Fwd s (c + 1) st (st.fail e b) ∧ Tr (d + 1) (2 * ((st.fail e b).at_ - st.at_)) [] ∧ ((st.fail e b).ok = true → st.at_ + 1 ≤ (st.fail e b).at_) :=
    fun e b he => ⟨h0.fail he, Tr.nil_, by rw [St.fail_ok _ he]; exact (fun h => nomatch h)⟩
  unfold groupP
  split
  · exact hf _ _ (by decide)
  · split
    · rename_i _ h
      have h3 := nxt_in (s := s) (k := 2) (st := st) (by omega)
      have h4 := (Fwd.refl 0 (Nat.le_of_lt ha) h9).bump 3 h3
      have h5 := groupIn_fwd (n := 0) (st := st.bump 3) halt hd hok h4
      have h6 : (st.bump 3).at_ = st.at_ + 3 := rfl
      refine ⟨h5.1, h5.2.1.mono (Int.le_refl _) ?_, fun _ => ?_⟩
      · have := h5.2.2; omega
      · have := h5.2.2; omega
    · split
      · exact hf _ _ (by decide)
      · split
        · exact hf _ _ (by decide)
        · rename_i hc
          have h4 : Fwd s 0 st { st.bump 1 with caps := st.caps + 1 } := ⟨Nat.le_add_right _ _, ha, fun _ => ha, rfl, Nat.le_add_right _ _, by show st.caps + 1 ≤ 9; omega⟩
          have h5 := groupIn_fwd (n := st.caps + 1) halt hd (st := { st.bump 1 with caps := st.caps + 1 }) hok h4
          have h6 : ({ st.bump 1 with caps := st.caps + 1 } : St).at_ = st.at_ + 1 := rfl
          refine ⟨h5.1, h5.2.1.mono (Int.le_refl _) ?_, fun _ => ?_⟩
          · have := h5.2.2; omega
          · have := h5.2.2; omega
theorem atomP_fwd {st : St} (halt : AltOk s c d alt) (hd : 0 ≤ d) (hok : st.ok = true) (ha : st.at_ < s.length) (h9 : st.caps ≤ 9) :
    Fwd s (c + 1) st (atomP s alt st).2 ∧ Tr (d + 1) (2 * ((atomP s alt st).2.at_ - st.at_)) (atomP s alt st).1 ∧ ((atomP s alt st).2.ok = true → st.at_ + 1 ≤ (atomP s alt st).2.at_) := by
  have h0 : Fwd s (c + 1) st st := Fwd.refl _ (Nat.le_of_lt ha) h9
  have hb : Fwd s (c + 1) st (st.bump 1) := h0.bump 1 ha
  have h1 : (st.bump 1).at_ = st.at_ + 1 := rfl
  unfold atomP
  simp only
  split
  · exact ⟨h0.fail (by decide), Tr.nil_, by rw [St.fail_ok _ (by decide)]; exact (fun h => nomatch h)⟩
  split
  · exact groupP_fwd halt hd hok ha h9
  split
  · have h2 := (Fwd.refl 0 (Nat.le_of_lt ha) h9).bump 1 ha
    have h3 := classP_fwd (s := s) (st := st.bump 1) ha h9
    have h4 := classP_len (s := s) (st.bump 1)
    have h5 := h3.mono
    exact ⟨(hb.trans (h3.mono_c (by omega))), ⟨by rw [h4.1]; omega, fun x hx => by have := h4.2 x hx; omega⟩, fun _ => by omega⟩
  split
  · have h3 := escaped_fwd (s := s) ha h9
    have h4 := escaped_len (s := s) st
    have h5 := escaped_more (s := s) st
    exact ⟨h3.mono_c (by omega), ⟨by have := h4.1; omega, fun x hx => by have := h4.2 x hx; omega⟩, fun _ => h5⟩
  split
  · exact ⟨hb, Tr.one rfl (by omega) (by dsimp only; omega), fun _ => by dsimp only; omega⟩
  · exact ⟨hb, Tr.one rfl (by omega) (by dsimp only; omega), fun _ => by dsimp only; omega⟩
theorem itemP_fwd {st : St} (halt : AltOk s c d alt) (hd : 0 ≤ d) (hok : st.ok = true) (ha : st.at_ < s.length) (h9 : st.caps ≤ 9) :
    Fwd s (c + 1) st (itemP s alt st).2 ∧ Tr (d + 2) (2 * ((itemP s alt st).2.at_ - st.at_)) (itemP s alt st).1 ∧ ((itemP s alt st).2.ok = true → st.at_ + 1 ≤ (itemP s alt st).2.at_) := by
  have h0 : Fwd s (c + 1) st st := Fwd.refl _ (Nat.le_of_lt ha) h9
  have hb : Fwd s (c + 1) st (st.bump 1) := h0.bump 1 ha
  have h1 : (st.bump 1).at_ = st.at_ + 1 := rfl
  unfold itemP
  simp only
  split
  · exact ⟨hb, Tr.one rfl (by omega) (by dsimp only; omega), fun _ => by dsimp only; omega⟩
  split
  · exact ⟨hb, Tr.one rfl (by omega) (by dsimp only; omega), fun _ => by dsimp only; omega⟩
  have h2 := atomP_fwd halt hd hok ha h9
  generalize atomP s alt st = a at h2
  split
  · rename_i hk
    have h3 := h2.2.2 hk
    have h4 := repeatP_fwd (s := s) (h2.1.okl hk) h2.1.caps9 (show 0 ≤ d + 1 by omega) h2.2.1
    have h5 := h4.1.mono
    exact ⟨h2.1.trans (h4.1.mono_c (by omega)), h4.2.mono (by omega) (by omega), fun _ => by omega⟩
  · rename_i hk
    exact ⟨h2.1, Tr.nil_, fun h => absurd h hk⟩
theorem rowEnds_no {x : Int} (h : rowEnds x = false) : x ≠ -1 := by rintro rfl; simp [rowEnds] at h
theorem rowLoop_fwd (halt : AltOk s c d alt) (hd : 0 ≤ d) : ∀ (n : Nat) (st0 st : St) (items : List (List ReN)), Fwd s (c + 1) st0 st → s.length + 1 ≤ n + st.at_ →
    (∀ l ∈ items, ∀ x ∈ l, 0 ≤ x.deep ∧ x.deep ≤ d + 2) → items.flatten.length ≤ 2 * (st.at_ - st0.at_) →
    Fwd s (c + 1) st0 (rowLoop s alt n st items).2 ∧ Tr (d + 3) (2 * ((rowLoop s alt n st items).2.at_ - st0.at_) + 1) (rowLoop s alt n st items).1
  | 0, st0, st, items, h, hn, _, _ => ⟨h, Tr.nil_⟩
  | n + 1, st0, st, items, h, hn, hi, hl => by
    unfold rowLoop
    rcases hok : st.ok with _ | _
    · exact ⟨h, Tr.nil_⟩
    · rcases he : rowEnds (nxt s st 0) with _ | _
      · simp only [if_true, Bool.false_eq_true, if_false]
        have ha := nxt_in (s := s) (k := 0) (st := st) (rowEnds_no he)
        have h2 := itemP_fwd halt hd hok ha h.caps9
        have hm := h2.1.mono
        have hm0 := h.mono
        have hflat : (items ++ [(itemP s alt st).1]).flatten.length ≤ 2 * ((itemP s alt st).2.at_ - st0.at_) := by
          rw [List.flatten_append, List.length_append, List.flatten_singleton]
          have := h2.2.1.1
          omega
        have hall : ∀ l ∈ items ++ [(itemP s alt st).1], ∀ x ∈ l, 0 ≤ x.deep ∧ x.deep ≤ d + 2 := by
          intro l hl x hx
          rcases List.mem_append.1 hl with hl | hl
          · exact hi l hl x hx
          · simp at hl; subst hl; exact h2.2.1.2 x hx
        rcases hko : (itemP s alt st).2.ok with _ | _
        · have e : rowLoop s alt n (itemP s alt st).2 (items ++ [(itemP s alt st).1]) = ([], (itemP s alt st).2) := by
            cases n with
            | zero => rfl
            | succ n => unfold rowLoop; rw [hko]; rfl
          rw [e]; exact ⟨h.trans h2.1, Tr.nil_⟩
        · have h3 := h2.2.2 hko
          exact rowLoop_fwd halt hd n st0 _ _ (h.trans h2.1) (by omega) hall hflat
      · simp only [if_true]
        refine ⟨h, ?_⟩
        have := under_tr (top := node 0 0 0 false false []) rfl (show 0 ≤ d + 2 by omega) hi
        exact this.mono (by omega) (by omega)
theorem rowP_fwd (halt : AltOk s c d alt) (hd : 0 ≤ d) {st : St} (ha : st.at_ ≤ s.length) (h9 : st.caps ≤ 9) :
    Fwd s (c + 1) st (rowP s alt st).2 ∧ Tr (d + 3) (2 * ((rowP s alt st).2.at_ - st.at_) + 1) (rowP s alt st).1 :=
  rowLoop_fwd halt hd _ st st [] (Fwd.refl _ ha h9) (by omega) (by simp) (by simp)
theorem altLoop_fwd (halt : AltOk s c d alt) (hd : 0 ≤ d) : ∀ (n : Nat) (st0 st : St) (rows : List (List ReN)), Fwd s (c + 1) st0 st → s.length + 1 ≤ n + st.at_ ∨ st.ok = false →
    (∀ l ∈ rows, ∀ x ∈ l, 0 ≤ x.deep ∧ x.deep ≤ d + 3) → 1 ≤ rows.length → rows.flatten.length ≤ 2 * (st.at_ - st0.at_) + 1 →
    Fwd s (c + 1) st0 (altLoop s alt n st rows).2 ∧ (∀ l ∈ (altLoop s alt n st rows).1, ∀ x ∈ l, 0 ≤ x.deep ∧ x.deep ≤ d + 3) ∧ 1 ≤ (altLoop s alt n st rows).1.length ∧ (altLoop s alt n st rows).1.flatten.length ≤ 2 * ((altLoop s alt n st rows).2.at_ - st0.at_) + 1
  | 0, st0, st, rows, h, _, hi, h1, hl => ⟨h, hi, h1, hl⟩
  | n + 1, st0, st, rows, h, hn, hi, h1, hl => by
    unfold altLoop
    split
    · rename_i hc
      simp only [Bool.and_eq_true, decide_eq_true_eq] at hc
      have ha := nxt_in (s := s) (k := 0) (st := st) (by omega)
      have hb := h.bump 1 ha
      have hst : (st.bump 1).at_ = st.at_ + 1 := rfl
      have h2 := rowP_fwd halt hd (st := st.bump 1) ha hb.caps9
      have hm := h2.1.mono
      have hm0 := h.mono
      refine altLoop_fwd halt hd n st0 _ _ (hb.trans h2.1) ?_ ?_ ?_ ?_
      · rcases hn with hn | hn
        · left; omega
        · rw [hc.1] at hn; cases hn
      · intro l hl x hx
        rcases List.mem_append.1 hl with hl | hl
        · exact hi l hl x hx
        · simp at hl; subst hl; exact h2.2.2 x hx
      · simp
      · rw [List.flatten_append, List.length_append, List.flatten_singleton]
        have := h2.2.1
        omega
    · exact ⟨h, hi, h1, hl⟩
theorem altP_ok (halt : AltOk s c d alt) (hd : 0 ≤ d) : AltOk s (c + 1) (d + 4) (altP s alt) := by
  intro st hok ha h9
  have h := rowP_fwd halt hd (st := st) ha h9
  have h2 := altLoop_fwd halt hd (s.length + 2 - (rowP s alt st).2.at_) st (rowP s alt st).2 [(rowP s alt st).1] h.1 (by
    rcases hk : (rowP s alt st).2.ok with _ | _
    · right; rfl
    · left; have := h.1.okl hk; omega) (by intro l hl x hx; simp at hl; subst hl; exact h.2.2 x hx) (by simp) (by simpa using h.2.1)
  unfold altP
  simp only
  generalize altLoop s alt (s.length + 2 - (rowP s alt st).2.at_) (rowP s alt st).2 [(rowP s alt st).1] = q at h2 ⊢
  refine ⟨h2.1, ?_⟩
  obtain ⟨_, h3, h4, h5⟩ := h2
  split
  · rename_i h1
    match hq : q.1, h1 with
    | [l], _ =>
      rw [hq] at h3 h5
      exact ⟨by have : (List.flatten [l]).length = l.length := by simp
                simp only [List.headD]; omega, fun x hx => by have := h3 l (by simp) x hx; omega⟩
  · have := under_tr (top := node 1 0 0 false false []) rfl (show 0 ≤ d + 3 by omega) h3
    exact this.mono (by omega) (by omega)
theorem altN_ok (s : List Int) : ∀ n, AltOk s (n + 2) (4 * n + 4) (altN s n)
  | 0 => (altP_ok (c := 1) (d := 0) AltOk.stub (by decide)).weak (by omega) (by decide)
  | n + 1 => by
    have := altP_ok (altN_ok s n) (by omega)
    exact this.weak (by omega) (by push_cast; omega)
end
def kids (d : Int) : List ReN → Nat
  | [] => 0
  | x :: r => if d < x.deep then (if x.deep = d + 1 then 1 else 0) + kids d r else 0
def nodeOk (x : ReN) (k : Nat) (n : Int) : Prop :=
  (x.kind = 5 → k = 1 ∧ (0 < x.lo → x.lo = n + 1)) ∧ (x.kind = 6 → k = 1 ∧ (0 ≤ x.hi → x.lo ≤ x.hi)) ∧ (x.kind = 1 → 2 ≤ k) ∧ (x.kind = 2 → k = 0 ∧ 0 < x.set.length ∧ x.set.length % 2 = 0)
def after (n : Int) (x : ReN) : Int := if x.kind = 5 then max n x.lo else n
def rowsOk : Int → List ReN → Prop
  | _, [] => True
  | n, x :: r => nodeOk x (kids x.deep r) n ∧ rowsOk (after n x) r
def steps : Int → List ReN → Prop
  | _, [] => True
  | p, x :: r => 1 ≤ x.deep ∧ x.deep ≤ p + 1 ∧ steps x.deep r
def last (n : Int) : List ReN → Int
  | [] => n
  | x :: r => last (after n x) r
def lift (d : Int) (x : ReN) : ReN := { x with deep := x.deep + d }
/-- What stands behind is no deeper. -/
def Shut (d : Int) : List ReN → Prop
  | [] => True
  | x :: _ => x.deep ≤ d
mutual
inductive WF : List ReN → Int → Int → Prop
  | leaf (x : ReN) (a : Int) : 0 ≤ a → x.deep = 0 → (x.kind = 3 ∨ x.kind = 4 ∨ (x.kind = 2 ∧ 0 < x.set.length ∧ x.set.length % 2 = 0)) → WF [x] a a
  | seq (x : ReN) (ls : List (List ReN)) (a b : Int) : x.deep = 0 → x.kind = 0 → WFs ls a b → WF (under x ls) a b
  | alt (x : ReN) (ls : List (List ReN)) (a b : Int) : x.deep = 0 → x.kind = 1 → 2 ≤ ls.length → WFs ls a b → WF (under x ls) a b
  | rep (x : ReN) (l : List ReN) (a b : Int) : x.deep = 0 → x.kind = 6 → (0 ≤ x.hi → x.lo ≤ x.hi) → WF l a b → WF (under x [l]) a b
  | grp (x : ReN) (l : List ReN) (a b : Int) : x.deep = 0 → x.kind = 5 → x.lo = 0 → WF l a b → WF (under x [l]) a b
  | num (x : ReN) (l : List ReN) (a b : Int) : 0 ≤ a → x.deep = 0 → x.kind = 5 → x.lo = a + 1 → WF l (a + 1) b → WF (under x [l]) a b
inductive WFs : List (List ReN) → Int → Int → Prop
  | nil (a : Int) : 0 ≤ a → WFs [] a a
  | cons (l : List ReN) (ls : List (List ReN)) (a b c : Int) : WF l a b → WFs ls b c → WFs (l :: ls) a c
end
theorem WFs.one {l : List ReN} {a b : Int} (h : WF l a b) (hb : 0 ≤ b) : WFs [l] a b := .cons l [] a b b h (.nil b hb)
theorem steps_mono : ∀ {l : List ReN} {p q : Int}, p ≤ q → steps p l → steps q l
  | [], _, _, _, _ => trivial
  | x :: r, p, q, h, ⟨h1, h2, h3⟩ => ⟨h1, by omega, h3⟩
theorem kids_shut {d : Int} : ∀ {l : List ReN}, Shut d l → kids d l = 0
  | [], _ => rfl
  | x :: r, h => by
    have h : x.deep ≤ d := h
    unfold kids; rw [if_neg (by omega)]
theorem Shut.mono {d e : Int} {l : List ReN} (h : Shut d l) (hd : d ≤ e) : Shut e l := by
  cases l with
  | nil => trivial
  | cons x r => exact Int.le_trans h hd
/-- The shape of a tree: its top, and what is deeper. -/
def Top (l : List ReN) : Prop := ∃ x r, l = x :: r ∧ x.deep = 0 ∧ ∀ y ∈ r, 1 ≤ y.deep
theorem kids_deep {d : Int} : ∀ (r rest : List ReN), (∀ y ∈ r, d + 2 ≤ y.deep) → kids d (r ++ rest) = kids d rest
  | [], _, _ => rfl
  | y :: r, rest, h => by
    have h1 := h y (by simp)
    rw [List.cons_append, kids, if_pos (by omega), if_neg (by omega), kids_deep r rest (fun z hz => h z (by simp [hz])), Nat.zero_add]
theorem kids_top {l : List ReN} (h : Top l) {d : Int} (rest : List ReN) : kids d (l.map (lift (d + 1)) ++ rest) = 1 + kids d rest := by
  obtain ⟨x, r, rfl, h0, hr⟩ := h
  rw [List.map_cons, List.cons_append, kids, if_pos (by show d < x.deep + (d + 1); omega), if_pos (by show x.deep + (d + 1) = d + 1; omega), kids_deep]
  intro y hy
  obtain ⟨z, hz, rfl⟩ := List.mem_map.1 hy
  have := hr z hz
  show d + 2 ≤ z.deep + (d + 1); omega
theorem top_under {x : ReN} {ls : List (List ReN)} (h : x.deep = 0) (hl : ∀ l ∈ ls, Top l) : Top (under x ls) := by
  refine ⟨x, _, rfl, h, fun y hy => ?_⟩
  obtain ⟨z, hz, rfl⟩ := List.mem_map.1 hy
  obtain ⟨l, hl', hz⟩ := List.mem_flatten.1 hz
  obtain ⟨t, r, rfl, h0, hr⟩ := hl l hl'
  rcases List.mem_cons.1 hz with rfl | hz
  · show 1 ≤ z.deep + 1; omega
  · have := hr z hz
    show 1 ≤ z.deep + 1; omega
theorem lift_under {d : Int} (x : ReN) (ls : List (List ReN)) : (under x ls).map (lift d) = lift d x :: (ls.flatten.map (lift (d + 1))) := by
  unfold under
  rw [List.map_cons, List.map_map]
  congr 1
  apply List.map_congr_left
  intro y _
  show ({ y with deep := y.deep + 1 + d } : ReN) = { y with deep := y.deep + (d + 1) }
  congr 1; omega
/-- What a list of nodes does ahead of others. -/
structure Good (d : Int) (l : List ReN) (a b : Int) : Prop where
  rows : ∀ rest, Shut d rest → rowsOk b rest → rowsOk a (l.map (lift d) ++ rest)
  step : ∀ p rest, 1 ≤ d → d ≤ p + 1 → Shut d rest → steps d rest → steps p (l.map (lift d) ++ rest)
  fin : ∀ rest, last a (l.map (lift d) ++ rest) = last b rest
theorem groups_cons (x : ReN) (l : List ReN) : groups (x :: l) = (if x.kind = 5 ∧ 0 < x.lo then 1 else 0) + groups l := by
  unfold groups
  by_cases h : x.kind = 5 ∧ 0 < x.lo
  · rw [if_pos h, List.filter_cons_of_pos (by simp [h.1, h.2])]; simp; omega
  · rw [if_neg h, List.filter_cons_of_neg (by simpa using h)]; simp
theorem groups_append (l m : List ReN) : groups (l ++ m) = groups l + groups m := by
  unfold groups; rw [List.filter_append, List.length_append]
theorem groups_down (l : List ReN) : groups (l.map ReN.down) = groups l := by
  induction l with
  | nil => rfl
  | cons x l ih => rw [List.map_cons, groups_cons, groups_cons, ih]; rfl
theorem steps_shut {d p : Int} {l : List ReN} (h : Shut d l) (hs : steps d l) (hd : d ≤ p + 1) : steps p l := by
  cases l with
  | nil => trivial
  | cons x r =>
    have h : x.deep ≤ d := h
    exact ⟨hs.1, by omega, hs.2.2⟩
/-- Lists of trees. -/
structure Goods (d : Int) (ls : List (List ReN)) (a b : Int) : Prop extends Good d ls.flatten a b where
  kid : ∀ rest, kids (d - 1) (ls.flatten.map (lift d) ++ rest) = ls.length + kids (d - 1) rest
structure Base (l : List ReN) (a b : Int) : Prop where
  top : Top l
  lo : 0 ≤ a
  le : a ≤ b
  grp : (groups l : Int) = b - a
structure Bases (ls : List (List ReN)) (a b : Int) : Prop where
  top : ∀ l ∈ ls, Top l
  lo : 0 ≤ a
  le : a ≤ b
  grp : (groups ls.flatten : Int) = b - a
theorem base_node {x : ReN} {ls : List (List ReN)} {a a' b : Int} (h0 : x.deep = 0) (h : Bases ls a' b) (hl : 0 ≤ a) (he : a' = a + (if x.kind = 5 ∧ 0 < x.lo then 1 else 0)) : Base (under x ls) a b := by
  have hg := h.grp
  have hle := h.le
  have e : (groups (under x ls) : Int) = (if x.kind = 5 ∧ 0 < x.lo then 1 else 0) + (groups ls.flatten : Int) := by
    unfold under
    rw [groups_cons, groups_down]
    by_cases hc : x.kind = 5 ∧ 0 < x.lo
    · rw [if_pos hc, if_pos hc]; push_cast; rfl
    · rw [if_neg hc, if_neg hc]; push_cast; rfl
  by_cases hc : x.kind = 5 ∧ 0 < x.lo
  · rw [if_pos hc] at he e
    exact ⟨top_under h0 h.top, hl, by omega, by omega⟩
  · rw [if_neg hc] at he e
    exact ⟨top_under h0 h.top, hl, by omega, by omega⟩
theorem base_one {l : List ReN} {a b : Int} (h : Base l a b) : Bases [l] a b := ⟨by intro m hm; simp at hm; subst hm; exact h.top, h.lo, h.le, by simpa using h.grp⟩
mutual
theorem wf_base : ∀ {l : List ReN} {a b : Int}, WF l a b → Base l a b
  | _, _, _, .leaf x a ha h0 hk => ⟨⟨x, [], rfl, h0, by simp⟩, ha, Int.le_refl _, by
      rw [groups_cons, if_neg (by rintro ⟨h1, _⟩; rcases hk with h | h | h <;> omega)]; simp [groups]⟩
  | _, _, _, .seq x ls a b h0 hk h => base_node h0 (wfs_base h) (wfs_base h).lo (by rw [if_neg (by rintro ⟨h1, _⟩; omega)]; omega)
  | _, _, _, .alt x ls a b h0 hk _ h => base_node h0 (wfs_base h) (wfs_base h).lo (by rw [if_neg (by rintro ⟨h1, _⟩; omega)]; omega)
  | _, _, _, .rep x l a b h0 hk _ h => base_node h0 (base_one (wf_base h)) (wf_base h).lo (by rw [if_neg (by rintro ⟨h1, _⟩; omega)]; omega)
  | _, _, _, .grp x l a b h0 hk hl h => base_node h0 (base_one (wf_base h)) (wf_base h).lo (by rw [if_neg (by rintro ⟨_, h1⟩; omega)]; omega)
  | _, _, _, .num x l a b ha h0 hk hl h => base_node h0 (base_one (wf_base h)) ha (by rw [if_pos ⟨hk, by omega⟩])
theorem wfs_base : ∀ {ls : List (List ReN)} {a b : Int}, WFs ls a b → Bases ls a b
  | _, _, _, .nil a ha => ⟨by simp, ha, Int.le_refl _, by simp [groups]⟩
  | _, _, _, .cons l ls a b c h hs => by
    have h1 := wf_base h
    have h2 := wfs_base hs
    refine ⟨?_, h1.lo, Int.le_trans h1.le h2.le, ?_⟩
    · intro m hm
      rcases List.mem_cons.1 hm with rfl | hm
      · exact h1.top
      · exact h2.top m hm
    · rw [List.flatten_cons, groups_append]; have := h1.grp; have := h2.grp; push_cast; omega
end
theorem good_node {x : ReN} {ls : List (List ReN)} {a a' b d : Int} (h0 : x.deep = 0) (h : Goods (d + 1) ls a' b) (hn : nodeOk (lift d x) ls.length a) (ha : after a x = a') : Good d (under x ls) a b where
  rows rest hs hr := by
    rw [lift_under]
    have hk := h.kid rest
    rw [show d + 1 - 1 = d by omega, kids_shut hs, Nat.add_zero] at hk
    refine ⟨?_, ?_⟩
    · show nodeOk (lift d x) (kids (x.deep + d) (ls.flatten.map (lift (d + 1)) ++ rest)) a
      rw [h0, Int.zero_add, hk]; exact hn
    · show rowsOk (after a x) _
      rw [ha]; exact h.rows rest (hs.mono (by omega)) hr
  step p rest h1 hp hs hst := by
    rw [lift_under]
    refine ⟨?_, ?_, ?_⟩
    · show 1 ≤ x.deep + d; omega
    · show x.deep + d ≤ p + 1; omega
    · show steps (x.deep + d) _
      rw [h0, Int.zero_add]
      exact h.step d rest (by omega) (Int.le_refl _) (hs.mono (by omega)) (steps_mono (by omega) hst)
  fin rest := by
    rw [lift_under]
    show last (after a x) _ = _
    rw [ha]; exact h.fin rest
theorem good_nil {d a : Int} : Goods d [] a a := ⟨⟨fun _ _ h => h, fun _ _ _ hd hs hst => steps_shut hs hst hd, fun _ => rfl⟩, fun _ => by simp⟩
theorem good_cons {d a b c : Int} {l : List ReN} {ls : List (List ReN)} (ht : Top l) (hts : ∀ m ∈ ls, Top m) (h : Good d l a b) (hs : Goods d ls b c) : Goods d (l :: ls) a c := by
  have e : ∀ rest, (l :: ls).flatten.map (lift d) ++ rest = l.map (lift d) ++ (ls.flatten.map (lift d) ++ rest) := fun rest => by rw [List.flatten_cons, List.map_append, List.append_assoc]
  have sh : ∀ rest, Shut d rest → Shut d (ls.flatten.map (lift d) ++ rest) := fun rest hr => by
    cases ls with
    | nil => exact hr
    | cons m ms =>
      obtain ⟨x, r, rfl, h0, _⟩ := hts m (by simp)
      show x.deep + d ≤ d; omega
  refine ⟨⟨fun rest h1 h2 => ?_, fun p rest h1 hp h2 h3 => ?_, fun rest => ?_⟩, fun rest => ?_⟩
  · rw [e]; exact h.rows _ (sh rest h1) (hs.rows rest h1 h2)
  · rw [e]; exact h.step p _ h1 hp (sh rest h2) (hs.step d rest h1 (by omega) h2 h3)
  · rw [e, h.fin, hs.fin]
  · rw [e]
    have := kids_top ht (d := d - 1) (ls.flatten.map (lift d) ++ rest)
    rw [show d - 1 + 1 = d by omega] at this
    rw [this, hs.kid]; simp; omega
mutual
theorem wf_good : ∀ {l : List ReN} {a b : Int}, WF l a b → ∀ {d : Int}, 0 ≤ d → Good d l a b
  | _, _, _, .leaf x a ha h0 hk, d, hd => by
    have := good_node (x := x) (d := d) h0 (good_nil (d := d + 1) (a := a)) (a := a) ?_ ?_
    · simpa [under] using this
    · refine ⟨fun h => ?_, fun h => ?_, fun h => ?_, fun h => ?_⟩
      · have h : x.kind = 5 := h; rcases hk with h1 | h1 | h1 <;> omega
      · have h : x.kind = 6 := h; rcases hk with h1 | h1 | h1 <;> omega
      · have h : x.kind = 1 := h; rcases hk with h1 | h1 | h1 <;> omega
      · have h : x.kind = 2 := h
        rcases hk with h1 | h1 | h1
        · omega
        · omega
        · exact ⟨rfl, h1.2⟩
    · unfold after; rw [if_neg (by rcases hk with h1 | h1 | h1 <;> omega)]
  | _, _, _, .seq x ls a b h0 hk h, d, hd => good_node h0 (wfs_good h (by omega)) ⟨fun h => by have h : x.kind = 5 := h; omega, fun h => by have h : x.kind = 6 := h; omega, fun h => by have h : x.kind = 1 := h; omega, fun h => by have h : x.kind = 2 := h; omega⟩ (by unfold after; rw [if_neg (by omega)])
  | _, _, _, .alt x ls a b h0 hk hl h, d, hd => good_node h0 (wfs_good h (by omega)) ⟨fun h => by have h : x.kind = 5 := h; omega, fun h => by have h : x.kind = 6 := h; omega, fun _ => hl, fun h => by have h : x.kind = 2 := h; omega⟩ (by unfold after; rw [if_neg (by omega)])
  | _, _, _, .rep x l a b h0 hk hb h, d, hd => good_node h0 (good_cons (wf_base h).top (by simp) (wf_good h (by omega)) good_nil) ⟨fun h => by have h : x.kind = 5 := h; omega, fun _ => ⟨rfl, hb⟩, fun h => by have h : x.kind = 1 := h; omega, fun h => by have h : x.kind = 2 := h; omega⟩ (by unfold after; rw [if_neg (by omega)])
  | _, _, _, .grp x l a b h0 hk hl h, d, hd => good_node h0 (good_cons (wf_base h).top (by simp) (wf_good h (by omega)) good_nil) ⟨fun _ => ⟨rfl, fun h1 => by have h1 : 0 < x.lo := h1; omega⟩, fun h => by have h : x.kind = 6 := h; omega, fun h => by have h : x.kind = 1 := h; omega, fun h => by have h : x.kind = 2 := h; omega⟩ (by unfold after; rw [if_pos hk, hl]; have := (wf_base h).lo; omega)
  | _, _, _, .num x l a b ha h0 hk hl h, d, hd => good_node h0 (good_cons (wf_base h).top (by simp) (wf_good h (by omega)) good_nil) ⟨fun _ => ⟨rfl, fun _ => hl⟩, fun h => by have h : x.kind = 6 := h; omega, fun h => by have h : x.kind = 1 := h; omega, fun h => by have h : x.kind = 2 := h; omega⟩ (by unfold after; rw [if_pos hk, hl]; omega)
theorem wfs_good : ∀ {ls : List (List ReN)} {a b : Int}, WFs ls a b → ∀ {d : Int}, 0 ≤ d → Goods d ls a b
  | _, _, _, .nil _ _, _, _ => good_nil
  | _, _, _, .cons _ _ _ _ _ h hs, _, hd => good_cons (wf_base h).top (wfs_base hs).top (wf_good h hd) (wfs_good hs hd)
end
/-- A tree's list, as its statement reads it. -/
theorem wf_rows {l : List ReN} {b : Int} (h : WF l 0 b) : rowsOk 0 l ∧ last 0 l = (groups l : Int) ∧ ∃ x r, l = x :: r ∧ x.deep = 0 ∧ steps 0 r := by
  have hg := wf_good h (d := 0) (Int.le_refl _)
  have hb := wf_base h
  have hl : l.map (lift 0) = l := by
    have : lift 0 = id := by funext x; show ({ x with deep := x.deep + 0 } : ReN) = x; rw [Int.add_zero]
    rw [this, List.map_id]
  have h1 := hg.rows [] trivial trivial
  have h3 := hg.fin []
  rw [hl, List.append_nil] at h1 h3
  refine ⟨h1, ?_, ?_⟩
  · rw [h3]; show b = _; have := hb.grp; omega
  · have hg1 := wf_good h (d := 1) (by decide)
    obtain ⟨x, r, rfl, h0, hr⟩ := hb.top
    have h4 := hg1.step 0 [] (by decide) (by decide) trivial trivial
    rw [List.append_nil] at h4
    refine ⟨x, r, rfl, h0, ?_⟩
    have key : ∀ (r : List ReN) (p : Int), (∀ y ∈ r, 1 ≤ y.deep) → steps (p + 1) (r.map (lift 1)) → steps p r := by
      intro r
      induction r with
      | nil => intros; trivial
      | cons y r ih =>
        intro p hy hs
        obtain ⟨_, h6, h7⟩ := hs
        have h6 : y.deep + 1 ≤ p + 1 + 1 := h6
        exact ⟨hy y (by simp), by omega, ih y.deep (fun z hz => hy z (by simp [hz])) h7⟩
    have h5 := h4.2.2
    have e : (lift 1 x).deep = 0 + 1 := by show x.deep + 1 = _; omega
    rw [e] at h5
    exact key r 0 hr h5
section
variable {s : List Int}
theorem member_caps (st : St) : (member s st).2.2.caps = st.caps := by
  unfold member; simp only
  split
  · exact St.fail_caps _ _ _
  · split
    · split
      · rw [St.fail_caps]; rfl
      · rfl
    · rfl
theorem rangeEnd_caps (st : St) : (rangeEnd s st).2.caps = st.caps := by
  unfold rangeEnd; split
  · show (member s ((member s st).2.2.bump 1)).2.2.caps = _
    rw [member_caps]; exact member_caps st
  · exact member_caps st
theorem classRound_caps (st : St) (set : List Int) : (classRound s st set).2.caps = st.caps := by
  rcases hm : (member s st).2.1 with _ | l
  · rw [classRound_one hm]; simp only
    split
    · rw [St.fail_caps]; exact rangeEnd_caps st
    · exact rangeEnd_caps st
  · rw [classRound_sort hm]; exact member_caps st
theorem classLoop_caps : ∀ (n : Nat) (st : St) (set : List Int), (classLoop s n st set).2.caps = st.caps
  | 0, _, _ => rfl
  | n + 1, st, set => by
    rcases hc : (st.ok && (set.isEmpty || decide (nxt s st 0 ≠ 93))) with _ | _
    · rw [classLoop_off hc]
    · rw [classLoop_on hc, classLoop_caps n, classRound_caps]
theorem classP_caps (st : St) : (classP s st).2.caps = st.caps := by
  unfold classP; simp only
  show (classLoop _ _ _ _).2.caps = _
  rw [classLoop_caps]; split <;> rfl
theorem escaped_caps (st : St) : (escaped s st).2.caps = st.caps := by
  unfold escaped; simp only
  split
  · rfl
  · split
    · rfl
    · split
      · rfl
      · rw [St.fail_caps]; rfl
theorem must_caps (st : St) : (must s st).2.caps = st.caps := by
  unfold must; split
  · exact St.fail_caps _ _ _
  · rfl
theorem high_caps (lo : Int) (st : St) : (high s lo st).2.caps = st.caps := by
  unfold high; split
  · split
    · rw [must_caps]; rfl
    · rfl
  · rfl
theorem ite_caps {p : Prop} [Decidable p] {a b : St} {c : Nat} (h1 : a.caps = c) (h2 : b.caps = c) : (if p then a else b).caps = c := by split <;> assumption
theorem bounds_caps (st : St) : (bounds s st).2.2.caps = st.caps := by
  have h : (high s (must s (st.bump 1)).1 (must s (st.bump 1)).2).2.caps = st.caps := by rw [high_caps, must_caps]; rfl
  unfold bounds; simp only
  refine ite_caps ?_ ?_
  · rw [St.fail_caps]; exact ite_caps (a := St.fail _ _ _) (by rw [St.fail_caps]; exact h) h
  · exact ite_caps (a := St.fail _ _ _) (by rw [St.fail_caps]; exact h) h
theorem bounds_ord {st : St} (h : (bounds s st).2.2.ok = true) : 0 ≤ (bounds s st).2.1 → (bounds s st).1 ≤ (bounds s st).2.1 := by
  intro h0
  unfold bounds at h h0 ⊢
  simp only at h h0 ⊢
  generalize high s (must s (st.bump 1)).1 (must s (st.bump 1)).2 = b at h h0 ⊢
  generalize (must s (st.bump 1)).1 = lo at h ⊢
  generalize (if b.2.ok = true ∧ nxt s b.2 0 ≠ 125 then b.2.fail 5 b.2.at_ else b.2).bump 1 = st1 at h
  split at h
  · rw [St.fail_ok _ (by decide)] at h; cases h
  · rename_i hn
    by_cases h2 : b.1 < lo
    · exact absurd ⟨h, h0, h2⟩ hn
    · omega
theorem repTop_caps {st st1 : St} {lo hi : Int} (h : repTop s st = some (lo, hi, st1)) : st1.caps = st.caps ∧ (st1.ok = true → 0 ≤ hi → lo ≤ hi) := by
  unfold repTop at h
  simp only at h
  split at h
  · injection h with h; injection h with h1 h; injection h with h2 h; subst h h1 h2; exact ⟨rfl, fun _ h => by omega⟩
  · split at h
    · injection h with h; injection h with h1 h; injection h with h2 h; subst h h1 h2; exact ⟨rfl, fun _ h => by omega⟩
    · split at h
      · injection h with h; injection h with h1 h; injection h with h2 h; subst h h1 h2; exact ⟨rfl, fun _ h => by omega⟩
      · split at h
        · injection h with h; injection h with h1 h; injection h with h2 h; subst h h1 h2; exact ⟨bounds_caps st, bounds_ord⟩
        · cases h
theorem repeatP_wf {st : St} {atom : List ReN} {a b : Int} (ha : WF atom a b) (hok : (repeatP s atom st).2.ok = true) : WF (repeatP s atom st).1 a b ∧ (repeatP s atom st).2.caps = st.caps := by
  unfold repeatP at hok ⊢
  rcases hr : repTop s st with _ | ⟨lo, hi, st1⟩
  · exact ⟨ha, rfl⟩
  · rw [hr] at hok
    simp only at hok ⊢
    have h := repTop_caps hr
    have hok1 : st1.ok = true := by split at hok <;> exact hok
    refine ⟨.rep _ _ _ _ rfl rfl (h.2 hok1) ha, ?_⟩
    split
    · exact h.1
    · exact h.1
theorem set_wf {a : Int} (h : 0 ≤ a) (ng : Bool) {set : List Int} (h1 : 0 < set.length) (h2 : set.length % 2 = 0) : WF [node 2 0 0 false ng set] a a := .leaf _ a h rfl (.inr (.inr ⟨rfl, h1, h2⟩))
theorem escaped_wf {st : St} {a : Int} (h0 : 0 ≤ a) (hok : (escaped s st).2.ok = true) : WF (escaped s st).1 a a := by
  unfold escaped at hok ⊢
  simp only at hok ⊢
  split at hok
  · rename_i l hl
    have := sort_len hl
    exact set_wf h0 _ (by omega) this.2.2
  · split at hok
    · rename_i l hl2
      have := sort_len hl2
      exact set_wf h0 _ (by omega) this.2.2
    · split at hok
      · exact set_wf h0 _ (by simp) (by simp)
      · rw [St.fail_ok _ (by decide)] at hok; cases hok
theorem classP_wf {st : St} {a : Int} (h0 : 0 ≤ a) (ha : st.at_ ≤ s.length) (h9 : st.caps ≤ 9) (hok : (classP s st).2.ok = true) : WF (classP s st).1 a a := by
  unfold classP at hok ⊢
  simp only at hok ⊢
  have h1 : Fwd s 0 st (if decide (nxt s st 0 = 94) = true then st.bump 1 else st) := by
    split
    · rename_i h
      have h : nxt s st 0 = 94 := of_decide_eq_true h
      exact (Fwd.refl 0 ha h9).bump 1 (nxt_in (k := 0) (by omega))
    · exact Fwd.refl 0 ha h9
  generalize (if decide (nxt s st 0 = 94) = true then st.bump 1 else st) = st1 at h1 hok ⊢
  have h2 := classLoop_end (s := s) (s.length + 2 - st1.at_) (set := []) h1.hi h1.caps9 (by omega) hok
  have h3 := (classLoop_len (s := s) (s.length + 2 - st1.at_) st1 []).2
  refine set_wf h0 _ ?_ h3
  exact List.length_pos_iff.2 h2.2
def AltWf (s : List Int) (alt : St → List ReN × St) (o : Nat) : Prop :=
  ∀ st : St, st.op = o → st.ok = true → st.at_ ≤ s.length → st.caps ≤ 9 → (alt st).2.ok = true → WF (alt st).1 st.caps (alt st).2.caps
variable {o : Nat} {d : Int} {alt : St → List ReN × St}
theorem groupIn_wf {n : Int} {st : St} {a : Int} (halt : AltWf s alt (o + 1)) (hop : st.op = o) (hok : st.ok = true) (ha : st.at_ ≤ s.length) (h9 : st.caps ≤ 9) (hr : (groupIn s alt n st).2.ok = true)
    (h : n = 0 ∧ (st.caps : Int) = a ∨ 0 ≤ a ∧ n = a + 1 ∧ (st.caps : Int) = a + 1) : WF (groupIn s alt n st).1 a (groupIn s alt n st).2.caps := by
  have h1 := halt { st with op := st.op + 1 } (by show st.op + 1 = _; omega) hok ha h9
  unfold groupIn at hr ⊢
  simp only at hr ⊢
  generalize alt { st with op := st.op + 1 } = r at h1 hr ⊢
  have h2 : r.2.ok = true := by
    rcases hk : r.2.ok with _ | _
    · have e : ({ r.2 with op := r.2.op - 1 } : St).ok = false := hk
      generalize ({ r.2 with op := r.2.op - 1 } : St) = q at e hr
      split at hr
      · have : (q.fail 5 r.2.at_).ok = true := hr
        rw [St.fail_ok _ (by decide)] at this; cases this
      · have : q.ok = true := hr
        rw [e] at this; cases this
    · rfl
  have h3 := h1 h2
  have h4 : ((if ({ r.2 with op := r.2.op - 1 } : St).ok = true ∧ nxt s { r.2 with op := r.2.op - 1 } 0 ≠ 41 then ({ r.2 with op := r.2.op - 1 } : St).fail 5 r.2.at_ else { r.2 with op := r.2.op - 1 }).bump 1).caps = r.2.caps := by
    show (if _ then _ else _ : St).caps = _
    exact ite_caps (by rw [St.fail_caps]) rfl
  rw [h4]
  rcases h with ⟨rfl, h⟩ | ⟨h0, rfl, h⟩
  · exact .grp _ _ _ _ rfl rfl rfl (h ▸ h3)
  · exact .num _ _ _ _ h0 rfl rfl rfl (h ▸ h3)
theorem groupP_wf {st : St} (halt : o < 12 → AltWf s alt (o + 1)) (hop : st.op = o) (hok : st.ok = true) (ha : st.at_ < s.length) (h9 : st.caps ≤ 9) (hr : (groupP s alt st).2.ok = true) : WF (groupP s alt st).1 st.caps (groupP s alt st).2.caps := by
  unfold groupP at hr ⊢
  split at hr
  · rw [St.fail_ok _ (by decide)] at hr; cases hr
  · rename_i n1
    rw [if_neg n1]
    split at hr
    · rename_i n2
      rw [if_pos n2]
      have h3 := nxt_in (s := s) (k := 2) (st := st) (by omega)
      exact groupIn_wf (st := st.bump 3) (halt (by omega)) hop hok h3 h9 hr (.inl ⟨rfl, rfl⟩)
    · rename_i n2
      rw [if_neg n2]
      split at hr
      · rw [St.fail_ok _ (by decide)] at hr; cases hr
      · rename_i n3
        rw [if_neg n3]
        split at hr
        · rw [St.fail_ok _ (by decide)] at hr; cases hr
        · rename_i n4
          rw [if_neg n4]
          exact groupIn_wf (st := { st.bump 1 with caps := st.caps + 1 }) (halt (by omega)) hop hok ha (by show st.caps + 1 ≤ 9; omega) hr (.inr ⟨by omega, rfl, by push_cast; rfl⟩)
theorem atomP_wf {st : St} (halt : o < 12 → AltWf s alt (o + 1)) (hop : st.op = o) (hok : st.ok = true) (ha : st.at_ < s.length) (h9 : st.caps ≤ 9) (hr : (atomP s alt st).2.ok = true) : WF (atomP s alt st).1 st.caps (atomP s alt st).2.caps := by
  unfold atomP at hr ⊢
  simp only at hr ⊢
  split at hr
  · rw [St.fail_ok _ (by decide)] at hr; cases hr
  rename_i n1; rw [if_neg n1]
  split at hr
  · rename_i n2; rw [if_pos n2]; exact groupP_wf halt hop hok ha h9 hr
  rename_i n2; rw [if_neg n2]
  split at hr
  · rename_i n3; rw [if_pos n3]
    rw [classP_caps]; exact classP_wf (st := st.bump 1) (by omega) ha h9 hr
  rename_i n3; rw [if_neg n3]
  split at hr
  · rename_i n4; rw [if_pos n4]
    rw [escaped_caps]; exact escaped_wf (by omega) hr
  rename_i n4; rw [if_neg n4]
  split
  · exact set_wf (by omega) _ (by decide) rfl
  · exact set_wf (by omega) _ (by simp) (by simp)
theorem itemP_wf {st : St} (halt : o < 12 → AltWf s alt (o + 1)) (hop : st.op = o) (hok : st.ok = true) (ha : st.at_ < s.length) (h9 : st.caps ≤ 9) (hr : (itemP s alt st).2.ok = true) : WF (itemP s alt st).1 st.caps (itemP s alt st).2.caps := by
  unfold itemP at hr ⊢
  simp only at hr ⊢
  split at hr
  · rename_i n1; rw [if_pos n1]; exact .leaf _ _ (by omega) rfl (.inl rfl)
  rename_i n1; rw [if_neg n1]
  split at hr
  · rename_i n2; rw [if_pos n2]; exact .leaf _ _ (by omega) rfl (.inr (.inl rfl))
  rename_i n2; rw [if_neg n2]
  split at hr
  · rename_i n3; rw [if_pos n3]
    have h := repeatP_wf (atomP_wf halt hop hok ha h9 n3) hr
    rw [h.2]; exact h.1
  · rename_i n3; exact absurd hr n3
theorem WFs.snoc : ∀ {ls : List (List ReN)} {a b c : Int} {l : List ReN}, WFs ls a b → WF l b c → WFs (ls ++ [l]) a c
  | _, _, _, _, _, .nil a h, hl => .cons _ [] _ _ _ hl (.nil _ (by have := wf_base hl; exact Int.le_trans this.lo this.le))
  | _, _, _, _, _, .cons m ms a b c h hs, hl => .cons m _ _ _ _ h (WFs.snoc hs hl)
def IsSeq (l : List ReN) : Prop := ∃ items, l = under (node 0 0 0 false false []) items
theorem rowLoop_wf {cc : Nat} (halt : o < 12 → AltWf s alt (o + 1)) (hk : AltOk s cc d alt) (hd : 0 ≤ d) : ∀ (n : Nat) (st : St) (items : List (List ReN)) (a : Int), st.op = o → st.at_ ≤ s.length ∨ st.ok = false → st.caps ≤ 9 → (st.ok = true → WFs items a st.caps) → s.length + 1 ≤ n + st.at_ ∨ st.ok = false →
    (rowLoop s alt n st items).2.ok = true → WF (rowLoop s alt n st items).1 a (rowLoop s alt n st items).2.caps ∧ IsSeq (rowLoop s alt n st items).1
  | 0, st, items, a, _, ha, _, _, hn, hr => by
    have hr : st.ok = true := hr
    rcases ha with ha | ha
    · rcases hn with hn | hn
      · omega
      · rw [hr] at hn; cases hn
    · rw [hr] at ha; cases ha
  | n + 1, st, items, a, hop, ha, h9, hw, hn, hr => by
    rcases hok : st.ok with _ | _
    · have e : rowLoop s alt (n + 1) st items = ([], st) := by unfold rowLoop; rw [hok]; rfl
      rw [e] at hr
      have hr : st.ok = true := hr
      rw [hok] at hr; cases hr
    · have ha : st.at_ ≤ s.length := by rcases ha with h | h; exact h; rw [hok] at h; cases h
      have hn : s.length + 1 ≤ n + 1 + st.at_ := by rcases hn with h | h; exact h; rw [hok] at h; cases h
      unfold rowLoop at hr ⊢
      rw [hok] at hr ⊢
      simp only [if_true] at hr ⊢
      rcases he : rowEnds (nxt s st 0) with _ | _
      · rw [he] at hr
        simp only [Bool.false_eq_true, if_false] at hr ⊢
        have hlt := nxt_in (s := s) (k := 0) (st := st) (rowEnds_no he)
        have hf := itemP_fwd hk hd hok hlt h9
        refine rowLoop_wf halt hk hd n _ _ a (hf.1.op.trans hop) ?_ hf.1.caps9 (fun h => (hw hok).snoc (itemP_wf halt hop hok hlt h9 h)) ?_ hr
        · rcases h : (itemP s alt st).2.ok with _ | _
          · exact .inr rfl
          · exact .inl (hf.1.okl h)
        · rcases h : (itemP s alt st).2.ok with _ | _
          · exact .inr rfl
          · left; have := hf.2.2 h; omega
      · exact ⟨.seq _ _ _ _ rfl rfl (hw hok), _, rfl⟩
theorem rowP_wf {cc : Nat} (halt : o < 12 → AltWf s alt (o + 1)) (hk : AltOk s cc d alt) (hd : 0 ≤ d) {st : St} (hop : st.op = o) (ha : st.at_ ≤ s.length) (h9 : st.caps ≤ 9) (hr : (rowP s alt st).2.ok = true) : WF (rowP s alt st).1 st.caps (rowP s alt st).2.caps ∧ IsSeq (rowP s alt st).1 :=
  rowLoop_wf halt hk hd _ st [] _ hop (.inl ha) h9 (fun _ => .nil _ (by omega)) (by left; omega) hr
theorem altLoop_wf {cc : Nat} (halt : o < 12 → AltWf s alt (o + 1)) (hk : AltOk s cc d alt) (hd : 0 ≤ d) : ∀ (n : Nat) (st : St) (rows : List (List ReN)) (a : Int), st.op = o → st.caps ≤ 9 → 1 ≤ rows.length → (st.ok = true → WFs rows a st.caps ∧ ∀ l ∈ rows, IsSeq l) →
    (altLoop s alt n st rows).2.ok = true → WFs (altLoop s alt n st rows).1 a (altLoop s alt n st rows).2.caps ∧ (∀ l ∈ (altLoop s alt n st rows).1, IsSeq l) ∧ 1 ≤ (altLoop s alt n st rows).1.length
  | 0, _, _, _, _, _, h1, hw, hr => ⟨(hw hr).1, (hw hr).2, h1⟩
  | n + 1, st, rows, a, hop, h9, h1, hw, hr => by
    unfold altLoop at hr ⊢
    split at hr
    · rename_i hc
      rw [if_pos hc]
      simp only [Bool.and_eq_true, decide_eq_true_eq] at hc
      have hlt := nxt_in (s := s) (k := 0) (st := st) (by omega)
      have hf := rowP_fwd hk hd (st := st.bump 1) hlt h9
      refine altLoop_wf halt hk hd n _ _ a (hf.1.op.trans hop) hf.1.caps9 (by simp) (fun h => ?_) hr
      have hw1 := hw hc.1
      have hrw := rowP_wf halt hk hd (st := st.bump 1) hop hlt h9 h
      refine ⟨hw1.1.snoc hrw.1, fun l hl => ?_⟩
      rcases List.mem_append.1 hl with hl | hl
      · exact hw1.2 l hl
      · simp at hl; subst hl; exact hrw.2
    · rename_i hc
      rw [if_neg hc]
      exact ⟨(hw hr).1, (hw hr).2, h1⟩
/-- The outermost node. -/
def Outer (l : List ReN) : Prop := ∃ x r, l = x :: r ∧ (x.kind = 0 ∨ x.kind = 1)
theorem altP_wf {cc : Nat} (halt : o < 12 → AltWf s alt (o + 1)) (hk : AltOk s cc d alt) (hd : 0 ≤ d) {st : St} (hop : st.op = o) (ha : st.at_ ≤ s.length) (h9 : st.caps ≤ 9) (hr : (altP s alt st).2.ok = true) : WF (altP s alt st).1 st.caps (altP s alt st).2.caps ∧ Outer (altP s alt st).1 := by
  have hf := rowP_fwd hk hd (st := st) ha h9
  have h := altLoop_wf halt hk hd (s.length + 2 - (rowP s alt st).2.at_) (rowP s alt st).2 [(rowP s alt st).1] st.caps (hf.1.op.trans hop) hf.1.caps9 (by simp) (fun h => by
    have hrw := rowP_wf halt hk hd hop ha h9 h
    exact ⟨WFs.one hrw.1 (by omega), by intro l hl; simp at hl; subst hl; exact hrw.2⟩)
  unfold altP at hr ⊢
  simp only at hr ⊢
  generalize altLoop s alt (s.length + 2 - (rowP s alt st).2.at_) (rowP s alt st).2 [(rowP s alt st).1] = q at h hr ⊢
  obtain ⟨h1, h2, h3⟩ := h hr
  split
  · rename_i hl
    match hq : q.1, hl with
    | [l], _ =>
      rw [hq] at h1 h2
      obtain ⟨items, hi⟩ := h2 l (by simp)
      cases h1 with
      | cons _ _ _ b _ hw hs =>
        cases hs with
        | nil _ _ => exact ⟨hw, by simp only [List.headD]; rw [hi]; exact ⟨_, _, rfl, .inl rfl⟩⟩
  · exact ⟨.alt _ _ _ _ rfl rfl (by omega) h1, _, _, rfl, .inr rfl⟩
/-- The levels: within the innermost one no group is begun. -/
theorem altN_wf (s : List Int) : ∀ (n : Nat) (st : St), st.op + n = 12 → st.ok = true → st.at_ ≤ s.length → st.caps ≤ 9 → (altN s n st).2.ok = true → WF (altN s n st).1 st.caps (altN s n st).2.caps ∧ Outer (altN s n st).1
  | 0, st, ho, _, ha, h9, hr => altP_wf (o := st.op) (cc := 0) (d := 0) (fun h => by omega) AltOk.stub (by decide) rfl ha h9 hr
  | n + 1, st, ho, _, ha, h9, hr => altP_wf (o := st.op) (fun _ st' ho' hok' ha' h9' hr' => (altN_wf s n st' (by omega) hok' ha' h9' hr').1) (altN_ok s n) (by omega) rfl ha h9 hr
theorem parse_wf {s : List Int} {l : List ReN} {p : Int} (h : parse s = (l, 0, p)) : ∃ b, WF l 0 b ∧ Outer l := by
  unfold parse at h
  split at h
  · injection h with _ h; injection h with h _; omega
  · split at h
    · injection h with _ h; injection h with h _; omega
    · simp only at h
      obtain ⟨r, hr⟩ : ∃ r, altN s 12 ⟨0, 0, 0, 0, 0⟩ = r := ⟨_, rfl⟩
      rw [hr] at h
      generalize h2 : (if r.2.ok = true ∧ r.2.at_ < s.length then r.2.fail 5 r.2.at_ else r.2) = st2 at h
      by_cases hok : st2.ok = true
      · rw [if_pos hok] at h
        injection h with h1 _
        have hrk : r.2.ok = true := by
          rw [← h2] at hok
          split at hok
          · rw [St.fail_ok _ (by decide)] at hok; cases hok
          · exact hok
        have := altN_wf s 12 ⟨0, 0, 0, 0, 0⟩ rfl rfl (Nat.zero_le _) (by decide) (by rw [hr]; exact hrk)
        rw [hr, h1] at this
        exact ⟨_, this.1, this.2⟩
      · rw [if_neg hok] at h
        injection h with _ h
        injection h with h _
        exact absurd (show st2.ok = true by unfold St.ok; rw [h]; rfl) hok
end
end RX
namespace PG
open RX (ReN)
/-- An instruction. -/
structure Inst where
  op : Int
  x : Int
  y : Int
  neg : Bool
  set : List Int
/-- Instructions, and how many they are; 301: too many. -/
structure Part where
  l : List Inst
  n : Nat
def one (l : List Inst) : Part := ⟨l, l.length⟩
def moved (k : Int) (i : Inst) : Inst := if i.op = 4 then { i with x := i.x + k, y := i.y + k } else if i.op = 5 then { i with x := i.x + k } else i
def rowL : Part → List Part → Part
  | out, [] => out
  | out, p :: ps => if 301 ≤ out.n + p.n then ⟨[], 301⟩ else rowL ⟨out.l ++ p.l.map (moved out.l.length), out.n + p.n⟩ ps
def row (ps : List Part) : Part := rowL ⟨[], 0⟩ ps
def split (far : Int) (lazy : Bool) : Part := one [if lazy then ⟨4, far, 1, false, []⟩ else ⟨4, 1, far, false, []⟩]
def jump (far : Int) : Part := one [⟨5, far, 0, false, []⟩]
def save (x : Int) : Part := one [⟨3, x, 0, false, []⟩]
def either : List Part → Part
  | [] => ⟨[], 0⟩
  | [p] => p
  | p :: q :: ps => row [split (p.n + 2) false, p, jump ((either (q :: ps)).n + 1), either (q :: ps)]
def many (p : Part) (n : Nat) : Part := if p.n = 0 then ⟨[], 0⟩ else row (List.replicate n p)
def maybeL (p : Part) (lazy : Bool) : Nat → Part → Part
  | 0, out => out
  | n + 1, out => maybeL p lazy n (row [split (1 + p.n + out.n) lazy, p, out])
def maybe (p : Part) (n : Nat) (lazy : Bool) : Part := maybeL p lazy (if p.n = 301 then min n 1 else n) ⟨[], 0⟩
def loop (p : Part) (lazy : Bool) : Part := row [split (p.n + 2) lazy, p, jump (-(p.n : Int) - 1)]
/-- The trees right in a tree: n is fuel. -/
def kids : Nat → List ReN → List (List ReN)
  | 0, _ => []
  | _ + 1, [] => []
  | n + 1, x :: r => (x :: r.takeWhile fun y => decide (x.deep < y.deep)) :: kids n (r.dropWhile fun y => decide (x.deep < y.deep))
/-- The instructions of a node over those of what is in it. -/
def nodeP (x : ReN) (ins : List Part) : Part :=
  if x.kind = 0 then row ins
  else if x.kind = 1 then either ins
  else if x.kind = 2 then one [⟨0, 0, 0, x.neg, x.set⟩]
  else if x.kind = 3 then one [⟨1, 0, 0, false, []⟩]
  else if x.kind = 4 then one [⟨2, 0, 0, false, []⟩]
  else if x.kind = 5 then (if 0 < x.lo then row [save (2 * x.lo), ins.headD ⟨[], 0⟩, save (2 * x.lo + 1)] else ins.headD ⟨[], 0⟩)
  else if x.hi < 0 then row [many (ins.headD ⟨[], 0⟩) x.lo.toNat, loop (ins.headD ⟨[], 0⟩) x.lazy]
  else row [many (ins.headD ⟨[], 0⟩) x.lo.toNat, maybe (ins.headD ⟨[], 0⟩) (x.hi - x.lo).toNat x.lazy]
/-- The instructions of a tree: n is fuel. -/
def tree : Nat → List ReN → Part
  | 0, _ => ⟨[], 0⟩
  | _ + 1, [] => ⟨[], 0⟩
  | n + 1, x :: r => nodeP x ((kids r.length r).map (tree n))
def whole (l : List ReN) : Part := row [save 0, tree l.length l, save 1, one [⟨6, 0, 0, false, []⟩]]
/-- A pattern's program, or its fault. -/
def compile (s : List Int) : List Inst × Int × Int :=
  match RX.parse s with
  | (l, c, p) => if c = 0 then (if 300 < (whole l).n then ([], 3, s.length) else ((whole l).l, 0, 0)) else ([], c, p)
/-- A part is well made: its length, or too long. -/
def Fine (p : Part) : Prop := (p.n < 301 ∧ p.l.length = p.n) ∨ (p.n = 301 ∧ p.l = [])
theorem one_fine {l : List Inst} (h : l.length < 301) : Fine (one l) := .inl ⟨h, rfl⟩
theorem split_fine (far : Int) (lz : Bool) : Fine (split far lz) := one_fine (by simp)
theorem jump_fine (far : Int) : Fine (jump far) := one_fine (by simp)
theorem save_fine (x : Int) : Fine (save x) := one_fine (by simp)
/-- Parts one behind the other, moved. -/
def flat : Nat → List Part → List Inst
  | _, [] => []
  | k, p :: ps => p.l.map (moved k) ++ flat (k + p.n) ps
def total (ps : List Part) : Nat := (ps.map Part.n).foldr (· + ·) 0
theorem flat_len : ∀ (ps : List Part) (k : Nat), (∀ p ∈ ps, p.l.length = p.n) → (flat k ps).length = total ps
  | [], _, _ => rfl
  | p :: ps, k, h => by
    rw [flat, List.length_append, List.length_map, h p (by simp), flat_len ps _ (fun q hq => h q (by simp [hq]))]; rfl
theorem rowL_eq : ∀ (ps : List Part) (out : Part), out.l.length = out.n → out.n < 301 → (∀ p ∈ ps, Fine p) →
    (out.n + total ps < 301 → rowL out ps = ⟨out.l ++ flat out.n ps, out.n + total ps⟩ ∧ ∀ p ∈ ps, p.l.length = p.n) ∧ (301 ≤ out.n + total ps → rowL out ps = ⟨[], 301⟩)
  | [], out, h, h1, _ => ⟨fun _ => ⟨by simp [rowL, flat, total], by simp⟩, fun h2 => by simp [total] at h2; omega⟩
  | p :: ps, out, h, h1, hp => by
    have ht : total (p :: ps) = p.n + total ps := rfl
    rw [ht]
    rw [rowL]
    by_cases hc : 301 ≤ out.n + p.n
    · rw [if_pos hc]
      exact ⟨fun h2 => by omega, fun _ => rfl⟩
    · rw [if_neg hc]
      have hpl : p.l.length = p.n := by
        rcases hp p (by simp) with h3 | h3
        · exact h3.2
        · omega
      have ih := rowL_eq ps ⟨out.l ++ p.l.map (moved out.l.length), out.n + p.n⟩ (by simp only [List.length_append, List.length_map]; omega) (by show out.n + p.n < 301; omega) (fun q hq => hp q (by simp [hq]))
      refine ⟨fun h2 => ?_, fun h2 => ih.2 (by show 301 ≤ out.n + p.n + total ps; omega)⟩
      have h4 := ih.1 (by show out.n + p.n + total ps < 301; omega)
      refine ⟨?_, fun q hq => ?_⟩
      · rw [h4.1]
        simp only [flat, List.append_assoc, h, Nat.add_assoc]
      · rcases List.mem_cons.1 hq with rfl | hq
        · exact hpl
        · exact h4.2 q hq
theorem row_eq {ps : List Part} (hp : ∀ p ∈ ps, Fine p) : (total ps < 301 → row ps = ⟨flat 0 ps, total ps⟩ ∧ ∀ p ∈ ps, p.l.length = p.n) ∧ (301 ≤ total ps → row ps = ⟨[], 301⟩) := by
  have h := rowL_eq ps ⟨[], 0⟩ rfl (by decide) hp
  simp only [Nat.zero_add, List.nil_append] at h
  exact h
theorem row_fine {ps : List Part} (hp : ∀ p ∈ ps, Fine p) : Fine (row ps) := by
  have h := row_eq hp
  by_cases ht : total ps < 301
  · have h1 := h.1 ht
    rw [h1.1]
    exact .inl ⟨ht, flat_len ps 0 h1.2⟩
  · rw [h.2 (by omega)]; exact .inr ⟨rfl, rfl⟩
/-- An instruction at a place of so many: its targets. -/
def InOk (g n : Nat) (i : Nat) (x : Inst) : Prop :=
  (x.op = 4 → 0 ≤ x.x ∧ x.x ≤ n ∧ 0 ≤ x.y ∧ x.y ≤ n ∧ (x.x = x.y → x.x = i + 1)) ∧ (x.op = 5 → 0 ≤ x.x ∧ x.x ≤ n) ∧ (x.op = 3 → 0 ≤ x.x ∧ x.x ≤ 2 * g + 1) ∧ (x.op = 0 → x.set ≠ [] ∧ x.set.length % 2 = 0) ∧ 0 ≤ x.op ∧ x.op ≤ 5
/-- All targets of a part lie in it, or right behind it. -/
def Ok (g : Nat) (p : Part) : Prop := Fine p ∧ ∀ i x, p.l[i]? = some x → InOk g p.n i x
theorem moved_op (k : Int) (x : Inst) : (moved k x).op = x.op := by unfold moved; split; rfl; split <;> rfl
theorem moved_set (k : Int) (x : Inst) : (moved k x).set = x.set := by unfold moved; split; rfl; split <;> rfl
theorem InOk.moved {g n m i k : Nat} {x : Inst} (h : InOk g n i x) (hm : k + n ≤ m) : InOk g m (k + i) (moved k x) := by
  obtain ⟨h1, h2, h3, h4, h5, h6⟩ := h
  refine ⟨fun ho => ?_, fun ho => ?_, fun ho => ?_, fun ho => ?_, by rw [moved_op]; exact h5, by rw [moved_op]; exact h6⟩
  · rw [moved_op] at ho
    have := h1 ho
    unfold PG.moved
    rw [if_pos ho]
    simp only
    push_cast
    omega
  · rw [moved_op] at ho
    have := h2 ho
    unfold PG.moved
    rw [if_neg (by omega), if_pos ho]
    simp only
    omega
  · rw [moved_op] at ho
    have := h3 ho
    unfold PG.moved
    rw [if_neg (by omega), if_neg (by omega)]
    exact this
  · rw [moved_op] at ho
    rw [moved_set]
    exact h4 ho
/-- A part's instructions as they stand behind k others in a whole of m. -/
def At (g m k : Nat) (p : Part) : Prop := Fine p ∧ ∀ i x, p.l[i]? = some x → InOk g m (k + i) (moved k x)
theorem Ok.at_ {g m k : Nat} {p : Part} (h : Ok g p) (hm : k + p.n ≤ m) : At g m k p := ⟨h.1, fun i x hx => (h.2 i x hx).moved hm⟩
def AllAt (g m : Nat) : Nat → List Part → Prop
  | _, [] => True
  | k, p :: ps => At g m k p ∧ AllAt g m (k + p.n) ps
theorem allAt_flat {g m : Nat} : ∀ (ps : List Part) (k : Nat), AllAt g m k ps → (∀ p ∈ ps, p.l.length = p.n) → ∀ i x, (flat k ps)[i]? = some x → InOk g m (k + i) x
  | [], _, _, _, i, x, h => by simp [flat] at h
  | p :: ps, k, ha, hl, i, x, h => by
    rw [flat] at h
    have hp := hl p (by simp)
    rcases Nat.lt_or_ge i p.n with hi | hi
    · rw [List.getElem?_append_left (by simpa [hp] using hi), List.getElem?_map, Option.map_eq_some_iff] at h
      obtain ⟨y, h1, rfl⟩ := h
      exact ha.1.2 i y h1
    · rw [List.getElem?_append_right (by simpa [hp] using hi), List.length_map, hp] at h
      have := allAt_flat ps (k + p.n) ha.2 (fun q hq => hl q (by simp [hq])) _ _ h
      rw [show k + i = k + p.n + (i - p.n) by omega]; exact this
theorem row_ok {g : Nat} {ps : List Part} (hf : ∀ p ∈ ps, Fine p) (h : total ps < 301 → AllAt g (total ps) 0 ps) : Ok g (row ps) := by
  refine ⟨row_fine hf, fun i x hx => ?_⟩
  have he := row_eq hf
  by_cases ht : total ps < 301
  · have h1 := he.1 ht
    rw [h1.1] at hx ⊢
    have := allAt_flat ps 0 (h ht) h1.2 i x hx
    rwa [Nat.zero_add] at this
  · rw [he.2 (by omega)] at hx
    simp at hx
theorem row_oks {g : Nat} : ∀ (ps : List Part) (k m : Nat), (∀ p ∈ ps, Ok g p) → k + total ps ≤ m → AllAt g m k ps
  | [], _, _, _, _ => trivial
  | p :: ps, k, m, h, hm => by
    have ht : total (p :: ps) = p.n + total ps := rfl
    rw [ht] at hm
    exact ⟨(h p (by simp)).at_ (by omega), row_oks ps (k + p.n) m (fun q hq => h q (by simp [hq])) (by omega)⟩
theorem row_all {g : Nat} {ps : List Part} (h : ∀ p ∈ ps, Ok g p) : Ok g (row ps) :=
  row_ok (fun p hp => (h p hp).1) (fun _ => row_oks ps 0 _ h (by omega))
theorem at_one {g m k : Nat} {x : Inst} (h : InOk g m k (moved k x)) : At g m k (one [x]) := by
  refine ⟨one_fine (by simp), fun i y hy => ?_⟩
  match i, hy with
  | 0, hy => simp [one] at hy; subst hy; exact h
theorem at_split {g m k : Nat} {far : Int} {lz : Bool} (h0 : 1 ≤ far) (h1 : k + far ≤ m) (h2 : k + 1 ≤ m) : At g m k (split far lz) := by
  cases lz
  · show At g m k (one [⟨4, 1, far, false, []⟩])
    refine at_one ⟨fun _ => ?_, fun h => absurd h (by simp [moved]), fun h => absurd h (by simp [moved]), fun h => absurd h (by simp [moved]), by simp [moved], by simp [moved]⟩
    simp [moved]
    omega
  · show At g m k (one [⟨4, far, 1, false, []⟩])
    refine at_one ⟨fun _ => ?_, fun h => absurd h (by simp [moved]), fun h => absurd h (by simp [moved]), fun h => absurd h (by simp [moved]), by simp [moved], by simp [moved]⟩
    simp [moved]
    omega
theorem at_jump {g m k : Nat} {far : Int} (h0 : 0 ≤ k + far) (h1 : k + far ≤ m) : At g m k (jump far) := by
  refine at_one ⟨fun h => absurd h (by simp [moved]), fun _ => ?_, fun h => absurd h (by simp [moved]), fun h => absurd h (by simp [moved]), by simp [moved], by simp [moved]⟩
  simp [moved]
  omega
theorem at_save {g m k : Nat} {x : Int} (h0 : 0 ≤ x) (h1 : x ≤ 2 * g + 1) : At g m k (save x) := by
  refine at_one ⟨fun h => absurd h (by simp [moved]), fun h => absurd h (by simp [moved]), fun _ => ?_, fun h => absurd h (by simp [moved]), by simp [moved], by simp [moved]⟩
  simp [moved]
  omega
theorem either_ok {g : Nat} : ∀ (ps : List Part), (∀ p ∈ ps, Ok g p) → Ok g (either ps)
  | [], _ => ⟨.inl ⟨by decide, rfl⟩, by intro i x h; simp [either] at h⟩
  | [p], h => h p (by simp)
  | p :: q :: ps, h => by
    have h1 := either_ok (q :: ps) (fun x hx => h x (by simp at hx ⊢; right; exact hx))
    have h2 := h p (by simp)
    rw [either]
    generalize either (q :: ps) = out at h1
    refine row_ok ?_ ?_
    · intro x hx
      simp at hx
      rcases hx with rfl | rfl | rfl | rfl
      · exact split_fine _ _
      · exact h2.1
      · exact jump_fine _
      · exact h1.1
    · intro _
      have ht : total [split (p.n + 2) false, p, jump (out.n + 1), out] = 1 + (p.n + (1 + (out.n + 0))) := rfl
      rw [ht]
      exact ⟨at_split (by omega) (by omega) (by omega), h2.at_ (by show 0 + 1 + p.n ≤ _; omega), at_jump (by show (0 : Int) ≤ ((0 + 1 + p.n : Nat) : Int) + (out.n + 1); omega) (by show ((0 + 1 + p.n : Nat) : Int) + (out.n + 1) ≤ _; omega), h1.at_ (by show 0 + 1 + p.n + 1 + out.n ≤ _; omega), trivial⟩
theorem nil_ok {g : Nat} : Ok g ⟨[], 0⟩ := ⟨.inl ⟨by decide, rfl⟩, by intro i x h; simp at h⟩
theorem many_ok {g : Nat} {p : Part} (h : Ok g p) (n : Nat) : Ok g (many p n) := by
  unfold many
  split
  · exact nil_ok
  · exact row_all (fun q hq => by rw [List.eq_of_mem_replicate hq]; exact h)
theorem maybeL_ok {g : Nat} {p : Part} (h : Ok g p) (lz : Bool) : ∀ (n : Nat) (out : Part), Ok g out → Ok g (maybeL p lz n out)
  | 0, _, ho => ho
  | n + 1, out, ho => by
    rw [maybeL]
    refine maybeL_ok h lz n _ (row_ok ?_ ?_)
    · intro x hx
      simp at hx
      rcases hx with rfl | rfl | rfl
      · exact split_fine _ _
      · exact h.1
      · exact ho.1
    · intro _
      have ht : total [split (1 + p.n + out.n) lz, p, out] = 1 + (p.n + (out.n + 0)) := rfl
      rw [ht]
      exact ⟨at_split (by omega) (by omega) (by omega), h.at_ (by show 0 + 1 + p.n ≤ _; omega), ho.at_ (by show 0 + 1 + p.n + out.n ≤ _; omega), trivial⟩
theorem loop_ok {g : Nat} {p : Part} (h : Ok g p) (lz : Bool) : Ok g (loop p lz) := by
  refine row_ok ?_ ?_
  · intro x hx
    simp at hx
    rcases hx with rfl | rfl | rfl
    · exact split_fine _ _
    · exact h.1
    · exact jump_fine _
  · intro _
    have ht : total [split (p.n + 2) lz, p, jump (-(p.n : Int) - 1)] = 1 + (p.n + (1 + 0)) := rfl
    rw [ht]
    exact ⟨at_split (by omega) (by omega) (by omega), h.at_ (by show 0 + 1 + p.n ≤ _; omega), at_jump (by show (0 : Int) ≤ ((0 + 1 + p.n : Nat) : Int) + (-(p.n : Int) - 1); omega) (by show ((0 + 1 + p.n : Nat) : Int) + (-(p.n : Int) - 1) ≤ _; omega), trivial⟩
end PG
namespace PG
open RX (ReN WF WFs Top under lift)
theorem kids_nil : ∀ n, kids n [] = []
  | 0 => rfl
  | _ + 1 => rfl
theorem takeWhile_all {α : Type} {p : α → Bool} : ∀ {a b : List α}, (∀ x ∈ a, p x = true) → (∀ x r, b = x :: r → p x = false) → (a ++ b).takeWhile p = a ∧ (a ++ b).dropWhile p = b
  | [], [], _, _ => ⟨rfl, rfl⟩
  | [], x :: r, _, h => by
    have := h x r rfl
    exact ⟨by simp [this], by simp [this]⟩
  | y :: a, b, h1, h2 => by
    have hy := h1 y (by simp)
    have ih := takeWhile_all (a := a) (b := b) (fun x hx => h1 x (by simp [hx])) h2
    exact ⟨by simp [hy, ih.1], by simp [hy, ih.2]⟩
/-- The trees right in a tree are those that it was made of. -/
theorem kids_flat (e : Int) : ∀ (ls : List (List ReN)) (n : Nat), (∀ l ∈ ls, Top l) → (ls.flatten.map (lift e)).length ≤ n → kids n (ls.flatten.map (lift e)) = ls.map (List.map (lift e))
  | [], n, _, _ => kids_nil n
  | l :: ls, n, ht, hn => by
    obtain ⟨t, r, rfl, h0, hr⟩ := ht l (by simp)
    have hl : (((t :: r) :: ls).flatten.map (lift e)) = lift e t :: (r.map (lift e) ++ ls.flatten.map (lift e)) := by simp
    rw [hl] at hn ⊢
    cases n with
    | zero => simp at hn
    | succ n =>
      have hw := takeWhile_all (p := fun y : ReN => decide ((lift e t).deep < y.deep)) (a := r.map (lift e)) (b := ls.flatten.map (lift e)) (fun x hx => by
        obtain ⟨y, hy, rfl⟩ := List.mem_map.1 hx
        have := hr y hy
        exact decide_eq_true (by show t.deep + e < y.deep + e; omega)) (fun x s hx => by
        cases ls with
        | nil => simp at hx
        | cons m ls =>
          obtain ⟨u, q, rfl, hu, -⟩ := ht m (by simp)
          simp at hx
          rw [← hx.1]
          exact decide_eq_false (by show ¬ t.deep + e < u.deep + e; omega))
      rw [kids, hw.1, hw.2, kids_flat e ls n (fun m hm => ht m (by simp [hm])) (by simp at hn ⊢; omega)]
      simp
theorem tree_under {x : ReN} {ls : List (List ReN)} {e : Int} {n : Nat} (ht : ∀ l ∈ ls, Top l) : tree (n + 1) ((under x ls).map (lift e)) = nodeP (lift e x) (ls.map fun l => tree n (l.map (lift (e + 1)))) := by
  rw [RX.lift_under, tree, kids_flat (e + 1) ls _ ht (Nat.le_refl _), List.map_map]
  rfl
theorem under_len {x : ReN} {ls : List (List ReN)} {l : List ReN} (h : l ∈ ls) : l.length + 1 ≤ (under x ls).length := by
  unfold under
  rw [List.length_cons, List.length_map]
  have : l.length ≤ ls.flatten.length := by
    induction ls with
    | nil => simp at h
    | cons m ls ih =>
      rw [List.flatten_cons, List.length_append]
      rcases List.mem_cons.1 h with rfl | h
      · omega
      · have := ih h; omega
  omega
theorem one_ok {g : Nat} {x : Inst} (h : InOk g 1 0 x) : Ok g (one [x]) := by
  refine ⟨one_fine (by simp), fun i y hy => ?_⟩
  match i, hy with
  | 0, hy => simp [one] at hy; subst hy; exact h
theorem leaf_ok {g : Nat} {op : Int} (h4 : op ≠ 4) (h5 : op ≠ 5) (h3 : op ≠ 3) (h0 : op ≠ 0) (hr : 0 ≤ op ∧ op ≤ 5) : Ok g (one [⟨op, 0, 0, false, []⟩]) :=
  one_ok ⟨fun h => absurd h h4, fun h => absurd h h5, fun h => absurd h h3, fun h => absurd h h0, hr.1, hr.2⟩
theorem set_ok {g : Nat} {neg : Bool} {s : List Int} (hs : 0 < s.length) (h2 : s.length % 2 = 0) : Ok g (one [⟨0, 0, 0, neg, s⟩]) :=
  one_ok ⟨fun h => absurd h (by simp), fun h => absurd h (by simp), fun h => absurd h (by simp), fun _ => ⟨List.ne_nil_of_length_pos hs, h2⟩, by simp, by simp⟩
theorem save_ok {g : Nat} {x : Int} (h0 : 0 ≤ x) (h1 : x ≤ 2 * g + 1) : Ok g (save x) :=
  one_ok ⟨fun h => absurd h (by simp), fun h => absurd h (by simp), fun _ => ⟨h0, h1⟩, fun h => absurd h (by simp), by simp, by simp⟩
mutual
theorem tree_wf {g : Nat} : ∀ {l : List ReN} {a b : Int}, WF l a b → 0 ≤ a → b ≤ g → ∀ (e : Int) (n : Nat), l.length ≤ n → Ok g (tree n (l.map (lift e)))
  | _, _, _, .leaf x a h0 hd hk, _, _, e, n, hn => by
    cases n with
    | zero => simp at hn
    | succ n =>
      show Ok g (nodeP (lift e x) ((kids 0 []).map (tree n)))
      unfold nodeP
      have hkind : (lift e x).kind = x.kind := rfl
      rw [hkind]
      rcases hk with h | h | ⟨h, hs, h2⟩
      · rw [if_neg (by omega), if_neg (by omega), if_neg (by omega), if_pos h]
        exact leaf_ok (by decide) (by decide) (by decide) (by decide) (by decide)
      · rw [if_neg (by omega), if_neg (by omega), if_neg (by omega), if_neg (by omega), if_pos h]
        exact leaf_ok (by decide) (by decide) (by decide) (by decide) (by decide)
      · rw [if_neg (by omega), if_neg (by omega), if_pos h]
        exact set_ok hs h2
  | _, _, _, .seq x ls a b hd hk hw, h0, hb, e, n, hn => by
    have ht := fun l hl => (RX.wfs_base hw).top l hl
    cases n with
    | zero => simp [under] at hn
    | succ n =>
      rw [tree_under ht]
      unfold nodeP
      rw [if_pos (show (lift e x).kind = 0 from hk)]
      refine row_all (fun p hp => ?_)
      obtain ⟨l, hl, rfl⟩ := List.mem_map.1 hp
      exact trees_wf hw h0 hb (e + 1) n (fun m hm => by have := under_len (x := x) hm; omega) l hl
  | _, _, _, .alt x ls a b hd hk h2 hw, h0, hb, e, n, hn => by
    have ht := fun l hl => (RX.wfs_base hw).top l hl
    cases n with
    | zero => simp [under] at hn
    | succ n =>
      rw [tree_under ht]
      unfold nodeP
      rw [if_neg (show ¬ (lift e x).kind = 0 by show ¬ x.kind = 0; omega), if_pos (show (lift e x).kind = 1 from hk)]
      refine either_ok _ (fun p hp => ?_)
      obtain ⟨l, hl, rfl⟩ := List.mem_map.1 hp
      exact trees_wf hw h0 hb (e + 1) n (fun m hm => by have := under_len (x := x) hm; omega) l hl
  | _, _, _, .rep x l a b hd hk hlh hw, h0, hb, e, n, hn => by
    have ht : ∀ m ∈ [l], Top m := fun m hm => by simp at hm; subst hm; exact (RX.wf_base hw).top
    cases n with
    | zero => simp [under] at hn
    | succ n =>
      rw [tree_under ht]
      have hok := tree_wf hw h0 hb (e + 1) n (by have := under_len (x := x) (ls := [l]) (l := l) (by simp); omega)
      have hkind : (lift e x).kind = 6 := hk
      unfold nodeP
      rw [if_neg (by omega), if_neg (by omega), if_neg (by omega), if_neg (by omega), if_neg (by omega), if_neg (by omega)]
      simp only [List.map_cons, List.map_nil, List.headD_cons]
      split
      · exact row_all (fun p hp => by
          simp at hp
          rcases hp with rfl | rfl
          · exact many_ok hok _
          · exact loop_ok hok _)
      · exact row_all (fun p hp => by
          simp at hp
          rcases hp with rfl | rfl
          · exact many_ok hok _
          · exact maybeL_ok hok _ _ _ nil_ok)
  | _, _, _, .grp x l a b hd hk hlo hw, h0, hb, e, n, hn => by
    have ht : ∀ m ∈ [l], Top m := fun m hm => by simp at hm; subst hm; exact (RX.wf_base hw).top
    cases n with
    | zero => simp [under] at hn
    | succ n =>
      rw [tree_under ht]
      have hok := tree_wf hw h0 hb (e + 1) n (by have := under_len (x := x) (ls := [l]) (l := l) (by simp); omega)
      have hkind : (lift e x).kind = 5 := hk
      have hlo2 : (lift e x).lo = 0 := hlo
      unfold nodeP
      rw [if_neg (by omega), if_neg (by omega), if_neg (by omega), if_neg (by omega), if_neg (by omega), if_pos hkind, if_neg (by omega)]
      exact hok
  | _, _, _, .num x l a b h1 hd hk hlo hw, h0, hb, e, n, hn => by
    have ht : ∀ m ∈ [l], Top m := fun m hm => by simp at hm; subst hm; exact (RX.wf_base hw).top
    have hle := (RX.wf_base hw).le
    cases n with
    | zero => simp [under] at hn
    | succ n =>
      rw [tree_under ht]
      have hok := tree_wf hw (by omega) hb (e + 1) n (by have := under_len (x := x) (ls := [l]) (l := l) (by simp); omega)
      have hkind : (lift e x).kind = 5 := hk
      have hlo2 : (lift e x).lo = a + 1 := hlo
      unfold nodeP
      rw [if_neg (by omega), if_neg (by omega), if_neg (by omega), if_neg (by omega), if_neg (by omega), if_pos hkind, if_pos (by omega)]
      refine row_all (fun p hp => ?_)
      simp at hp
      rcases hp with rfl | rfl | rfl
      · exact save_ok (by omega) (by omega)
      · exact hok
      · exact save_ok (by omega) (by omega)
theorem trees_wf {g : Nat} : ∀ {ls : List (List ReN)} {a b : Int}, WFs ls a b → 0 ≤ a → b ≤ g → ∀ (e : Int) (n : Nat), (∀ l ∈ ls, l.length ≤ n) → ∀ l ∈ ls, Ok g (tree n (l.map (lift e)))
  | _, _, _, .nil a h0, _, _, _, _, _, l, hl => by simp at hl
  | _, _, _, .cons m ls a b c hw hs, h0, hb, e, n, hn, l, hl => by
    have h1 := (RX.wf_base hw).le
    have h2 := (RX.wfs_base hs).le
    rcases List.mem_cons.1 hl with hm | hl
    · rw [hm]
      exact tree_wf hw h0 (by omega) e n (hn _ (by simp))
    · exact trees_wf hs (by omega) hb e n (fun q hq => hn q (by simp [hq])) l hl
end
end PG
namespace RX
/-- A node with a small set and small numbers. -/
def Sm (x : ReN) : Prop := x.set.length ≤ 1000 ∧ 0 ≤ x.lo ∧ x.lo ≤ 9 ∧ x.hi ≤ 9
def Sms (l : List ReN) : Prop := ∀ x ∈ l, Sm x
theorem sms_nil : Sms [] := by intro x hx; simp at hx
theorem sms_one {x : ReN} (h : Sm x) : Sms [x] := by intro y hy; simp at hy; subst hy; exact h
theorem under_sm {x : ReN} {ls : List (List ReN)} (hx : Sm x) (h : ∀ l ∈ ls, Sms l) : Sms (under x ls) := by
  intro y hy
  unfold under at hy
  rcases List.mem_cons.1 hy with rfl | hy
  · exact hx
  · obtain ⟨z, hz, rfl⟩ := List.mem_map.1 hy
    obtain ⟨l, hl, hz⟩ := List.mem_flatten.1 hz
    exact h l hl z hz
theorem sms_in {x : ReN} {ls : List (List ReN)} (h : Sms (under x ls)) : Sm x ∧ ∀ l ∈ ls, Sms l := by
  refine ⟨h x (by unfold under; simp), fun l hl z hz => ?_⟩
  exact h z.down (by unfold under; exact List.mem_cons_of_mem _ (List.mem_map.2 ⟨z, List.mem_flatten.2 ⟨l, hl, hz⟩, rfl⟩))
section
variable {s : List Int}
theorem must_sm (st : St) : 0 ≤ (must s st).1 ∧ (must s st).1 ≤ 9 := by
  unfold must
  split
  · exact ⟨by show (0 : Int) ≤ 0; omega, by show (0 : Int) ≤ 9; omega⟩
  · rename_i h
    show 0 ≤ digit (nxt s st 0) ∧ digit (nxt s st 0) ≤ 9
    refine ⟨by omega, ?_⟩
    unfold digit at h ⊢
    split
    · omega
    · omega
theorem high_sm (st : St) {lo : Int} (h : lo ≤ 9) : (high s lo st).1 ≤ 9 := by
  unfold high
  split
  · split
    · exact (must_sm _).2
    · show (-1 : Int) ≤ 9; omega
  · exact h
theorem repTop_sm {st st1 : St} {lo hi : Int} (h : repTop s st = some (lo, hi, st1)) : 0 ≤ lo ∧ lo ≤ 9 ∧ hi ≤ 9 := by
  unfold repTop at h
  simp only at h
  split at h
  · injection h with h; injection h with h1 h; injection h with h2 h; omega
  · split at h
    · injection h with h; injection h with h1 h; injection h with h2 h; omega
    · split at h
      · injection h with h; injection h with h1 h; injection h with h2 h; omega
      · split at h
        · injection h with h; injection h with h1 h; injection h with h2 h
          subst h1 h2
          unfold bounds
          simp only
          have h3 := must_sm (s := s) (st.bump 1)
          exact ⟨h3.1, h3.2, high_sm _ h3.2⟩
        · cases h
theorem repeatP_sm {st : St} {atom : List ReN} (ha : Sms atom) : Sms (repeatP s atom st).1 := by
  unfold repeatP
  rcases hr : repTop s st with _ | ⟨lo, hi, st1⟩
  · exact ha
  · have h := repTop_sm hr
    exact under_sm ⟨by simp [node], h.1, h.2.1, h.2.2⟩ (by intro l hl; simp at hl; subst hl; exact ha)
theorem set_sm (ng : Bool) {set : List Int} (h : set.length ≤ 1000) : Sms [node 2 0 0 false ng set] := sms_one ⟨h, by simp [node], by simp [node], by simp [node]⟩
theorem escaped_sm (st : St) : Sms (escaped s st).1 := by
  unfold escaped
  simp only
  split
  · rename_i l hl
    have := sort_len hl
    exact set_sm _ (by omega)
  · split
    · rename_i l hl2
      have := sort_len hl2
      exact set_sm _ (by omega)
    · split
      · exact set_sm _ (by simp)
      · exact sms_nil
theorem classP_sm (hs : s.length ≤ 60) (st : St) : Sms (classP s st).1 := by
  unfold classP
  simp only
  refine set_sm _ ?_
  generalize (if decide (nxt s st 0 = 94) = true then st.bump 1 else st) = st1
  have h := (classLoop_len (s := s) (s.length + 2 - st1.at_) st1 []).1
  have h2 : ([] : List Int).length = 0 := rfl
  omega
variable {alt : St → List ReN × St}
theorem groupIn_sm {n : Int} {st : St} (ha : ∀ st, Sms (alt st).1) (h0 : 0 ≤ n) (h9 : n ≤ 9) : Sms (groupIn s alt n st).1 := by
  unfold groupIn
  exact under_sm ⟨by simp [node], h0, h9, by simp [node]⟩ (by intro l hl; simp at hl; subst hl; exact ha _)
theorem groupP_sm (ha : ∀ st, Sms (alt st).1) (st : St) : Sms (groupP s alt st).1 := by
  unfold groupP
  split
  · exact sms_nil
  · split
    · exact groupIn_sm ha (by omega) (by omega)
    · split
      · exact sms_nil
      · split
        · exact sms_nil
        · exact groupIn_sm ha (by omega) (by omega)
theorem atomP_sm (hs : s.length ≤ 60) (ha : ∀ st, Sms (alt st).1) (st : St) : Sms (atomP s alt st).1 := by
  unfold atomP
  simp only
  split
  · exact sms_nil
  · split
    · exact groupP_sm ha st
    · split
      · exact classP_sm hs _
      · split
        · exact escaped_sm st
        · split
          · exact set_sm _ (by simp)
          · exact set_sm _ (by simp)
theorem itemP_sm (hs : s.length ≤ 60) (ha : ∀ st, Sms (alt st).1) (st : St) : Sms (itemP s alt st).1 := by
  unfold itemP
  simp only
  split
  · exact sms_one ⟨by simp [node], by simp [node], by simp [node], by simp [node]⟩
  · split
    · exact sms_one ⟨by simp [node], by simp [node], by simp [node], by simp [node]⟩
    · split
      · exact repeatP_sm (atomP_sm hs ha st)
      · exact sms_nil
theorem rowLoop_sm (hs : s.length ≤ 60) (ha : ∀ st, Sms (alt st).1) : ∀ (n : Nat) (st : St) (items : List (List ReN)), (∀ l ∈ items, Sms l) → Sms (rowLoop s alt n st items).1
  | 0, _, _, _ => sms_nil
  | n + 1, st, items, hi => by
    unfold rowLoop
    split
    · split
      · exact under_sm ⟨by simp [node], by simp [node], by simp [node], by simp [node]⟩ hi
      · refine rowLoop_sm hs ha n _ _ (fun l hl => ?_)
        rcases List.mem_append.1 hl with hl | hl
        · exact hi l hl
        · simp at hl; subst hl; exact itemP_sm hs ha st
    · exact sms_nil
theorem rowP_sm (hs : s.length ≤ 60) (ha : ∀ st, Sms (alt st).1) (st : St) : Sms (rowP s alt st).1 := rowLoop_sm hs ha _ _ _ (by intro l hl; simp at hl)
theorem altLoop_sm (hs : s.length ≤ 60) (ha : ∀ st, Sms (alt st).1) : ∀ (n : Nat) (st : St) (rows : List (List ReN)), (∀ l ∈ rows, Sms l) → ∀ l ∈ (altLoop s alt n st rows).1, Sms l
  | 0, _, _, hr => hr
  | n + 1, st, rows, hr => by
    unfold altLoop
    split
    · refine altLoop_sm hs ha n _ _ (fun l hl => ?_)
      rcases List.mem_append.1 hl with hl | hl
      · exact hr l hl
      · simp at hl; subst hl; exact rowP_sm hs ha _
    · exact hr
theorem altP_sm (hs : s.length ≤ 60) (ha : ∀ st, Sms (alt st).1) (st : St) : Sms (altP s alt st).1 := by
  unfold altP
  simp only
  have h := altLoop_sm hs ha (s.length + 2 - (rowP s alt st).2.at_) (rowP s alt st).2 [(rowP s alt st).1] (by intro l hl; simp at hl; subst hl; exact rowP_sm hs ha st)
  generalize (altLoop s alt (s.length + 2 - (rowP s alt st).2.at_) (rowP s alt st).2 [(rowP s alt st).1]).1 = rows at h
  split
  · cases rows with
    | nil => exact sms_nil
    | cons x r => exact h x (by simp)
  · exact under_sm ⟨by simp [node], by simp [node], by simp [node], by simp [node]⟩ h
theorem altN_sm (hs : s.length ≤ 60) : ∀ (n : Nat) (st : St), Sms (altN s n st).1
  | 0, st => altP_sm hs (fun _ => sms_nil) st
  | n + 1, st => altP_sm hs (altN_sm hs n) st
end
theorem parse_sms {s : List Int} {l : List ReN} {c p : Int} (h : parse s = (l, c, p)) : Sms l := by
  unfold parse at h
  split at h
  · injection h with h _; rw [← h]; exact sms_nil
  · rename_i hl
    split at h
    · injection h with h _; rw [← h]; exact sms_nil
    · simp only at h
      have hN := altN_sm (s := s) (by omega) 12 ⟨0, 0, 0, 0, 0⟩
      generalize altN s 12 ⟨0, 0, 0, 0, 0⟩ = r at h hN
      generalize (if r.2.ok = true ∧ r.2.at_ < s.length then r.2.fail 5 r.2.at_ else r.2) = st2 at h
      by_cases hok : st2.ok = true
      · rw [if_pos hok] at h; injection h with h _; rw [← h]; exact hN
      · rw [if_neg hok] at h; injection h with h _; rw [← h]; exact sms_nil
theorem parse_at {s : List Int} {l : List ReN} {b : Int} (h : parse s = (l, 0, b)) : b = 0 := by
  unfold parse at h
  split at h
  · injection h with _ h; injection h with h _; exact absurd h (by decide)
  · split at h
    · injection h with _ h; injection h with h _; exact absurd h (by decide)
    · simp only at h
      generalize (if (altN s 12 ⟨0, 0, 0, 0, 0⟩).2.ok = true ∧ (altN s 12 ⟨0, 0, 0, 0, 0⟩).2.at_ < s.length then (altN s 12 ⟨0, 0, 0, 0, 0⟩).2.fail 5 (altN s 12 ⟨0, 0, 0, 0, 0⟩).2.at_ else (altN s 12 ⟨0, 0, 0, 0, 0⟩).2) = st2 at h
      by_cases hok : st2.ok = true
      · rw [if_pos hok] at h; injection h with _ h; injection h with _ h; exact h.symm
      · rw [if_neg hok] at h
        injection h with _ h
        injection h with h _
        exact absurd (by unfold St.ok; rw [h]; rfl) hok
theorem parse_few {s : List Int} {l : List ReN} {c p : Int} (h : parse s = (l, c, p)) : Tr 60 200 l := by
  unfold parse at h
  split at h
  · injection h with h _; rw [← h]; exact Tr.nil_
  · rename_i hl
    split at h
    · injection h with h _; rw [← h]; exact Tr.nil_
    · simp only at h
      have hN := altN_ok s 12 ⟨0, 0, 0, 0, 0⟩ rfl (Nat.zero_le _) (by decide)
      generalize altN s 12 ⟨0, 0, 0, 0, 0⟩ = r at h hN
      have h1 : r.2.at_ ≤ s.length + 14 := hN.1.hi
      have h2 : Tr 60 200 r.1 := hN.2.mono (by decide) (by show 2 * (r.2.at_ - 0) + 2 ≤ 200; omega)
      generalize (if r.2.ok = true ∧ r.2.at_ < s.length then r.2.fail 5 r.2.at_ else r.2) = st2 at h
      by_cases hok : st2.ok = true
      · rw [if_pos hok] at h; injection h with h _; rw [← h]; exact h2
      · rw [if_neg hok] at h; injection h with h _; rw [← h]; exact Tr.nil_
theorem parse_off {s : List Int} {l : List ReN} {c p : Int} (h : parse s = (l, c, p)) (hc : c ≠ 0) : l = [] := by
  unfold parse at h
  split at h
  · injection h with h _; exact h.symm
  · split at h
    · injection h with h _; exact h.symm
    · simp only at h
      generalize (if (altN s 12 ⟨0, 0, 0, 0, 0⟩).2.ok = true ∧ (altN s 12 ⟨0, 0, 0, 0, 0⟩).2.at_ < s.length then (altN s 12 ⟨0, 0, 0, 0, 0⟩).2.fail 5 (altN s 12 ⟨0, 0, 0, 0, 0⟩).2.at_ else (altN s 12 ⟨0, 0, 0, 0, 0⟩).2) = st2 at h
      by_cases hok : st2.ok = true
      · rw [if_pos hok] at h; injection h with _ h; injection h with h _; exact absurd h.symm hc
      · rw [if_neg hok] at h; injection h with h _; exact h.symm
end RX
namespace TP
/-- The next number below n; the place behind it. -/
def next (ts : List Int) (i n : Nat) : Nat × Nat := match ts[i]? with | some x => ((x % 16777216).toNat % n, i + 1) | none => (0, i)
theorem next_lt (ts : List Int) (i : Nat) {n : Nat} (hn : 1 ≤ n) : (next ts i n).1 < n := by
  unfold next; split
  · exact Nat.mod_lt _ hn
  · exact hn
theorem next_le {ts : List Int} {i : Nat} (n : Nat) (h : i ≤ ts.length) : (next ts i n).2 ≤ ts.length := by
  unfold next; split
  · rename_i h1
    have := (List.getElem?_eq_some_iff.1 h1).1
    exact this
  · exact h
def one (ts : List Int) (i : Nat) (l : List (List Int)) : List Int × Nat := (l.getD (next ts i l.length).1 [], (next ts i l.length).2)
def l1 : List (List Int) := [[97], [98], [99], [46], [95], [65], [32]]
def l2 : List (List Int) := [[92, 119], [92, 100], [92, 115], [91, 97, 98, 99, 93], [91, 94, 97, 45, 98, 93], [91, 92, 119, 45, 93], [92, 46], [92, 87], [91, 97, 45, 93]]
def l3 : List (List Int) := [[40], [40, 63, 58]]
def l4 : List (List Int) := [[94], [36], [], []]
def l5 : List (List Int) := [[97], [98], [40, 99, 41], [40, 97, 41]]
def lr : List (List Int) := [[], [], [42], [43], [63], [42, 63], [123, 49, 44, 50, 125], [123, 50, 125], [123, 48, 44, 125, 63]]
section
variable (ts : List Int) (deep : Bool) (sub : Nat → List Int × Nat)
/-- What stands in brackets. -/
def inner (i : Nat) : List Int × Nat :=
  let a := one ts i l3
  let p := sub a.2
  let m := next ts p.2 3
  if m.1 = 0 then (a.1 ++ p.1 ++ [124] ++ (sub m.2).1 ++ [41], (sub m.2).2) else (a.1 ++ p.1 ++ [41], m.2)
/-- An element, without its repeat; none: it takes none. -/
def item (i : Nat) : List Int × Nat :=
  let k := next ts i 10
  let rep (a : List Int × Nat) : List Int × Nat := (a.1 ++ (one ts a.2 lr).1, (one ts a.2 lr).2)
  if k.1 < 3 then rep (one ts k.2 l1)
  else if k.1 < 5 then rep (one ts k.2 l2)
  else if k.1 < 7 ∧ deep = true then rep (inner ts sub k.2)
  else if k.1 < 8 then one ts k.2 l4
  else rep (one ts k.2 l5)
def loop : Nat → Nat → List Int → List Int × Nat
  | 0, i, out => (out, i)
  | n + 1, i, out => loop n (item ts deep sub i).2 (out ++ (item ts deep sub i).1)
def made (i : Nat) : List Int × Nat := loop ts deep sub (1 + (next ts i 3).1) (next ts i 3).2 []
end
/-- Pattern of a depth. -/
def pat (ts : List Int) : Nat → Nat → List Int × Nat
  | 0 => made ts false (fun i => ([], i))
  | d + 1 => made ts true (pat ts d)
theorem one_le {ts : List Int} {i : Nat} (l : List (List Int)) (h : i ≤ ts.length) : (one ts i l).2 ≤ ts.length := next_le _ h
theorem getD_len {l : List (List Int)} {n : Nat} (h : ∀ x ∈ l, x.length ≤ n) (k : Nat) : (l.getD k []).length ≤ n := by
  rcases Nat.lt_or_ge k l.length with hk | hk
  · rw [List.getD_eq_getElem?_getD, List.getElem?_eq_getElem hk]; exact h _ (List.getElem_mem hk)
  · rw [List.getD_eq_getElem?_getD, List.getElem?_eq_none hk]; exact Nat.zero_le _
theorem one_len {ts : List Int} {i : Nat} {l : List (List Int)} {n : Nat} (h : ∀ x ∈ l, x.length ≤ n) : (one ts i l).1.length ≤ n := getD_len h _
/-- The places and lengths of what is made within. -/
def SubOk (ts : List Int) (b : Nat) (sub : Nat → List Int × Nat) : Prop := ∀ i, i ≤ ts.length → (sub i).2 ≤ ts.length ∧ (sub i).1.length ≤ b
section
variable {ts : List Int} {deep : Bool} {sub : Nat → List Int × Nat} {b : Nat}
theorem inner_ok (hs : SubOk ts b sub) {i : Nat} (h : i ≤ ts.length) : (inner ts sub i).2 ≤ ts.length ∧ (inner ts sub i).1.length ≤ 2 * b + 5 := by
  unfold inner
  simp only
  have h1 := one_le l3 h
  have h2 := one_len (ts := ts) (i := i) (l := l3) (n := 3) (by decide)
  have h3 := hs _ h1
  have h4 := next_le 3 h3.1
  have h5 := hs _ h4
  split
  · exact ⟨h5.1, by simp only [List.length_append, List.length_cons, List.length_nil]; omega⟩
  · exact ⟨h4, by simp only [List.length_append, List.length_cons, List.length_nil]; omega⟩
theorem item_ok (hs : SubOk ts b sub) {i : Nat} (h : i ≤ ts.length) : (item ts deep sub i).2 ≤ ts.length ∧ (item ts deep sub i).1.length ≤ 2 * b + 15 := by
  have hr : ∀ a : List Int × Nat, a.2 ≤ ts.length → a.1.length ≤ 2 * b + 9 → (one ts a.2 lr).2 ≤ ts.length ∧ (a.1 ++ (one ts a.2 lr).1).length ≤ 2 * b + 15 := fun a h1 h2 =>
    ⟨one_le lr h1, by have := one_len (ts := ts) (i := a.2) (l := lr) (n := 6) (by decide); rw [List.length_append]; omega⟩
  have hk := next_le 10 h
  unfold item
  simp only
  split
  · exact hr _ (one_le l1 hk) (by have := one_len (ts := ts) (i := (next ts i 10).2) (l := l1) (n := 6) (by decide); omega)
  split
  · exact hr _ (one_le l2 hk) (by have := one_len (ts := ts) (i := (next ts i 10).2) (l := l2) (n := 6) (by decide); omega)
  split
  · have := inner_ok hs hk
    exact hr _ this.1 (by omega)
  split
  · exact ⟨one_le l4 hk, by have := one_len (ts := ts) (i := (next ts i 10).2) (l := l4) (n := 6) (by decide); omega⟩
  · exact hr _ (one_le l5 hk) (by have := one_len (ts := ts) (i := (next ts i 10).2) (l := l5) (n := 6) (by decide); omega)
theorem loop_ok (hs : SubOk ts b sub) : ∀ (n i : Nat) (out : List Int), i ≤ ts.length → (loop ts deep sub n i out).2 ≤ ts.length ∧ (loop ts deep sub n i out).1.length ≤ out.length + n * (2 * b + 15)
  | 0, _, _, h => ⟨h, by simp [loop]⟩
  | n + 1, i, out, h => by
    have h1 := item_ok (deep := deep) hs h
    have h2 := loop_ok hs n (item ts deep sub i).2 (out ++ (item ts deep sub i).1) h1.1
    rw [List.length_append] at h2
    unfold loop
    exact ⟨h2.1, by rw [Nat.succ_mul]; omega⟩
theorem made_ok (hs : SubOk ts b sub) : SubOk ts (3 * (2 * b + 15)) (made ts deep sub) := by
  intro i h
  have hn := next_lt ts i (n := 3) (by decide)
  have h2 := loop_ok (deep := deep) hs (1 + (next ts i 3).1) (next ts i 3).2 [] (next_le 3 h)
  unfold made
  refine ⟨h2.1, Nat.le_trans h2.2 ?_⟩
  rw [List.length_nil, Nat.zero_add]
  exact Nat.mul_le_mul_right _ (by omega)
end
theorem pat0_ok (ts : List Int) : SubOk ts 45 (pat ts 0) := made_ok (b := 0) (fun _ h => ⟨h, Nat.le_refl _⟩)
theorem pat1_ok (ts : List Int) : SubOk ts 315 (pat ts 1) := made_ok (pat0_ok ts)
theorem pat2_ok (ts : List Int) : SubOk ts 1935 (pat ts 2) := made_ok (pat1_ok ts)
theorem pat3_ok (ts : List Int) : SubOk ts 11655 (pat ts 3) := made_ok (pat2_ok ts)
end TP
end Go.Proofs.Ytpcdknfmgacggaa
