/- Plain law: what package resyn computes, as functions on lists. No program in sight. -/
namespace Go.Proofs.Ytfblkahjefdmaaa.RX

/-- A node of a regular text's tree. -/
structure ReN where
  kind : Int
  deep : Int
  lo : Int
  hi : Int
  lazy : Bool
  neg : Bool
  set : List Int

/-- The reader's state behind its text. -/
structure St where
  at_ : Nat
  op : Nat
  caps : Nat
  code : Int
  bat : Int

def node (kind lo hi : Int) (lazy neg : Bool) (set : List Int) : ReN := ⟨kind, 0, lo, hi, lazy, neg, set⟩
def ReN.down (x : ReN) : ReN := { x with deep := x.deep + 1 }
def St.bump (st : St) (n : Nat) : St := { st with at_ := st.at_ + n }
def St.fail (st : St) (code bat : Int) : St := if st.code = 0 then { st with code := code, bat := bat } else st
def St.ok (st : St) : Bool := st.code == 0

def nxt (s : List Int) (st : St) (n : Nat) : Int := (s[st.at_ + n]?).getD (-1)
def under (top : ReN) (parts : List (List ReN)) : List ReN := top :: (parts.flatten.map ReN.down)

def within (r a b : Int) : Bool := decide (a ≤ r) && decide (r ≤ b)
def isSign (r : Int) : Bool := decide (0 ≤ r) && decide (r ≤ 1114111) && (decide (r < 55296) || decide (57343 < r))
def classOf (r : Int) : Int :=
  if isSign r = false then 0
  else if r = 9 ∨ r = 32 then 1
  else if r = 10 then 2
  else if r = 215 ∨ r = 247 then 4
  else if within r 97 122 = true ∨ within r 65 90 = true ∨ within r 48 57 = true ∨ r = 95 ∨ within r 192 255 = true then 3
  else 4
def lower (r : Int) : Int := if within r 65 90 = true ∨ (within r 192 222 = true ∧ r ≠ 215) then r + 32 else r
def upper (r : Int) : Int := if within r 97 122 = true ∨ (within r 224 254 = true ∧ r ≠ 247) then r - 32 else r

def sortR (c : Int) : Option (List Int) :=
  if c = 100 then some [48, 57]
  else if c = 119 then some [97, 122, 65, 90, 48, 57, 95, 95]
  else if c = 115 then some [32, 32, 9, 9, 10, 10]
  else none
def signR (c : Int) : Option Int :=
  if c = 110 then some 10 else if c = 116 then some 9 else if c = -1 then none
  else if classOf c = 4 ∨ classOf c = 1 then some c else none

def escaped (s : List Int) (st0 : St) : List ReN × St :=
  let st := st0.bump 1
  let c := nxt s st 0
  match sortR c with
  | some l => ([node 2 0 0 false false l], st.bump 1)
  | none => match sortR (lower c) with
    | some l => ([node 2 0 0 false true l], st.bump 1)
    | none => match signR c with
      | some x => ([node 2 0 0 false false [x, x]], st.bump 1)
      | none => ([], st.fail 5 st.at_)

def member (s : List Int) (st : St) : Int × Option (List Int) × St :=
  let c := nxt s st 0
  if c = -1 ∨ c = 93 then (0, none, st.fail 5 st.at_)
  else if c = 92 then
    let st1 := st.bump 1
    let d := nxt s st1 0
    if sortR d = none ∧ signR d = none then (0, none, st1.fail 5 st1.at_)
    else ((signR d).getD 0, sortR d, st1.bump 1)
  else (c, none, st.bump 1)

def ranged (s : List Int) (st : St) : Bool :=
  if nxt s st 0 = 45 then
    let c := nxt s st 1
    decide (c ≠ -1) && decide (c ≠ 93) && (decide (c ≠ 92) || (sortR (nxt s st 2)).isNone)
  else false

/-- One round of a class: the set, the state. -/
def classRound (s : List Int) (st : St) (set : List Int) : List Int × St :=
  let m := member s st
  match m.2.1 with
  | some l => (set ++ l, m.2.2)
  | none =>
    let b : Int × St := if m.2.2.ok && ranged s m.2.2 then ((member s (m.2.2.bump 1)).1, (member s (m.2.2.bump 1)).2.2) else (m.1, m.2.2)
    (set ++ [m.1, b.1], if b.2.ok = true ∧ b.1 < m.1 then b.2.fail 5 st.at_ else b.2)
def classLoop (s : List Int) : Nat → St → List Int → List Int × St
  | 0, st, set => (set, st)
  | n + 1, st, set => if st.ok && (set.isEmpty || decide (nxt s st 0 ≠ 93)) then classLoop s n (classRound s st set).2 (classRound s st set).1 else (set, st)
def classP (s : List Int) (st : St) : List ReN × St :=
  let neg := decide (nxt s st 0 = 94)
  let st1 := if neg then st.bump 1 else st
  let r := classLoop s (s.length + 2 - st1.at_) st1 []
  ([node 2 0 0 false neg r.1], r.2.bump 1)

def digit (c : Int) : Int := if c < 48 ∨ 57 < c then -1 else c - 48
def must (s : List Int) (st : St) : Int × St :=
  if digit (nxt s st 0) < 0 then (0, st.fail 5 st.at_) else (digit (nxt s st 0), st.bump 1)
/-- What follows a repeat's low bound. -/
def high (s : List Int) (lo : Int) (st : St) : Int × St :=
  if st.ok = true ∧ nxt s st 0 = 44 then
    (if nxt s (st.bump 1) 0 ≠ 125 then must s (st.bump 1) else (-1, st.bump 1))
  else (lo, st)
def bounds (s : List Int) (st : St) : Int × Int × St :=
  let a := must s (st.bump 1)
  let b := high s a.1 a.2
  let st1 := (if b.2.ok = true ∧ nxt s b.2 0 ≠ 125 then b.2.fail 5 b.2.at_ else b.2).bump 1
  (a.1, b.1, if st1.ok = true ∧ 0 ≤ b.1 ∧ b.1 < a.1 then st1.fail 5 st.at_ else st1)

/-- The node of a repeat that comes; none: none comes. -/
def repTop (s : List Int) (st : St) : Option (Int × Int × St) :=
  let c := nxt s st 0
  if c = 43 then some (1, -1, st.bump 1)
  else if c = 42 then some (0, -1, st.bump 1)
  else if c = 63 then some (0, 1, st.bump 1)
  else if c = 123 then some ((bounds s st).1, (bounds s st).2.1, (bounds s st).2.2)
  else none
def repeatP (s : List Int) (atom : List ReN) (st : St) : List ReN × St :=
  match repTop s st with
  | none => (atom, st)
  | some (lo, hi, st1) =>
    let lz := st1.ok && decide (nxt s st1 0 = 63)
    (under (node 6 lo hi lz false []) [atom], if lz then st1.bump 1 else st1)

section
variable (s : List Int) (alt : St → List ReN × St)
def groupIn (n : Int) (st : St) : List ReN × St :=
  let r := alt { st with op := st.op + 1 }
  let st1 : St := { r.2 with op := r.2.op - 1 }
  let st2 := if st1.ok = true ∧ nxt s st1 0 ≠ 41 then st1.fail 5 st1.at_ else st1
  (under (node 5 n 0 false false []) [r.1], st2.bump 1)
def groupP (st : St) : List ReN × St :=
  if 12 ≤ st.op then ([], st.fail 6 st.at_)
  else if nxt s st 1 = 63 ∧ nxt s st 2 = 58 then groupIn s alt 0 (st.bump 3)
  else if nxt s st 1 = 63 then ([], st.fail 5 (st.at_ + 2))
  else if 9 ≤ st.caps then ([], st.fail 3 st.at_)
  else groupIn s alt (st.caps + 1) { st.bump 1 with caps := st.caps + 1 }
def atomP (st : St) : List ReN × St :=
  let c := nxt s st 0
  if c = 42 ∨ c = 43 ∨ c = 63 ∨ c = 123 then ([], st.fail 5 st.at_)
  else if c = 40 then groupP s alt st
  else if c = 91 then classP s (st.bump 1)
  else if c = 92 then escaped s st
  else if c = 46 then ([node 2 0 0 false true [10, 10]], st.bump 1)
  else ([node 2 0 0 false false [c, c]], st.bump 1)
def itemP (st : St) : List ReN × St :=
  let c := nxt s st 0
  if c = 94 then ([node 3 0 0 false false []], st.bump 1)
  else if c = 36 then ([node 4 0 0 false false []], st.bump 1)
  else
    let a := atomP s alt st
    if a.2.ok then repeatP s a.1 a.2 else ([], a.2)
def rowEnds (c : Int) : Bool := decide (c = -1) || decide (c = 124) || decide (c = 41)
def rowLoop : Nat → St → List (List ReN) → List ReN × St
  | 0, st, _ => ([], st)
  | n + 1, st, items =>
    if st.ok then
      if rowEnds (nxt s st 0) then (under (node 0 0 0 false false []) items, st)
      else rowLoop n (itemP s alt st).2 (items ++ [(itemP s alt st).1])
    else ([], st)
def rowP (st : St) : List ReN × St := rowLoop s alt (s.length + 2 - st.at_) st []
def altLoop : Nat → St → List (List ReN) → List (List ReN) × St
  | 0, st, rows => (rows, st)
  | n + 1, st, rows =>
    if st.ok && decide (nxt s st 0 = 124) then altLoop n (rowP s alt (st.bump 1)).2 (rows ++ [(rowP s alt (st.bump 1)).1]) else (rows, st)
def altP (st : St) : List ReN × St :=
  let r := rowP s alt st
  let q := altLoop s alt (s.length + 2 - r.2.at_) r.2 [r.1]
  (if q.1.length = 1 then q.1.headD [] else under (node 1 0 0 false false []) q.1, q.2)
end

def altN (s : List Int) : Nat → St → List ReN × St
  | 0 => altP s (fun st => ([], st))
  | n + 1 => altP s (altN s n)

def firstBad (s : List Int) : Nat → Option Nat
  | i => (s.findIdx? fun c => classOf c == 0).map (· + i)

/-- What Parse returns: the tree, the fault's code and place. -/
def parse (s : List Int) : List ReN × Int × Int :=
  if 60 < s.length then ([], 3, 60)
  else match s.findIdx? (fun c => classOf c == 0) with
  | some i => ([], 1, i)
  | none =>
    let r := altN s 12 ⟨0, 0, 0, 0, 0⟩
    let st := if r.2.ok = true ∧ r.2.at_ < s.length then r.2.fail 5 r.2.at_ else r.2
    if st.ok then (r.1, 0, 0) else ([], st.code, st.bat)

def groups (l : List ReN) : Nat := (l.filter fun x => decide (x.kind = 5) && decide (0 < x.lo)).length
end Go.Proofs.Ytfblkahjefdmaaa.RX
