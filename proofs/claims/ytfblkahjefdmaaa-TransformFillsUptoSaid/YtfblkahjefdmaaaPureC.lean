/- Plain law: formats: how they are read, checked and printed, as functions on lists. No program in sight. -/
import Derived.Test.YtfblkahjefdmaaaPureA
namespace Go.Proofs.Ytfblkahjefdmaaa.FM

/-- A format's part. -/
structure Form where
  kind : Int
  group : Int
  cas : Int
  text : List Int
  els : List Int

def isD (c : Int) : Bool := decide (48 ≤ c) && decide (c ≤ 57)
def digs : List Int → Nat
  | [] => 0
  | c :: r => if isD c = true then digs r + 1 else 0
def val (l : List Int) : Int := l.foldl (fun n c => 10 * n + (c - 48)) 0
/-- A number: its value, its length. -/
def number (l : List Int) : Option (Int × Nat) := if digs l = 0 ∨ 2 < digs l then none else some (val (l.take (digs l)), digs l)

def marks : List Int := [92, 125, 58, 36, 47]
def outer : List Int := [92, 36, 125, 47]
/-- A text up to a sign; the length with that sign. -/
def text (e : Int) : List Int → Option (List Int × Nat)
  | [] => none
  | [c] => if c = e then some ([], 1) else none
  | c :: d :: r => if c = 92 ∧ d ∈ marks then (text e r).map (fun p => (d :: p.1, p.2 + 2)) else if c = e then some ([], 1) else (text e (d :: r)).map (fun p => (c :: p.1, p.2 + 1))

def nUp : List Int := [117, 112, 99, 97, 115, 101]
def nDown : List Int := [100, 111, 119, 110, 99, 97, 115, 101]
def nCap : List Int := [99, 97, 112, 105, 116, 97, 108, 105, 122, 101]
def nPascal : List Int := [112, 97, 115, 99, 97, 108, 99, 97, 115, 101]
def nCamel : List Int := [99, 97, 109, 101, 108, 99, 97, 115, 101]
def names : List (List Int) := [nUp, nDown, nCap, nPascal, nCamel]
def casedL : List (List Int) → Int → List Int → Option (Int × Nat)
  | [], _, _ => none
  | w :: ws, i, l => if l.take (w.length + 1) = w ++ [125] then some (i, w.length + 1) else casedL ws (i + 1) l
/-- A case's name and }. -/
def cased (l : List Int) : Option (Int × Nat) := casedL names 1 l

/-- What stands behind a number and :. -/
def inner (g : Int) (l : List Int) : Option (Form × Nat) :=
  if l.head? = some 47 then (cased l.tail).map fun p => (⟨1, g, p.1, [], []⟩, p.2 + 1)
  else if l.head? = some 43 then (text 125 l.tail).map fun p => (⟨2, g, 0, p.1, []⟩, p.2 + 1)
  else if l.head? = some 63 then
    match text 58 l.tail with
    | none => none
    | some p => (text 125 (l.tail.drop p.2)).map fun q => (⟨4, g, 0, p.1, q.1⟩, p.2 + q.2 + 1)
  else if l.head? = some 45 then (text 125 l.tail).map fun p => (⟨3, g, 0, [], p.1⟩, p.2 + 1)
  else (text 125 l).map fun p => (⟨3, g, 0, [], p.1⟩, p.2)
/-- A part, behind its $. -/
def part (l : List Int) : Option (Form × Nat) :=
  match number l with
  | some (n, k) => some (⟨1, n, 0, [], []⟩, k)
  | none =>
    if l.head? = some 123 then
      match number l.tail with
      | none => none
      | some (n, k) =>
        if (l.tail.drop k).head? = some 125 then some (⟨1, n, 0, [], []⟩, k + 2)
        else if (l.tail.drop k).head? = some 58 then (inner n (l.tail.drop k).tail).map fun p => (p.1, p.2 + k + 2)
        else none
    else none
def endT (fs : List Form) (tx : List Int) : List Form := if tx = [] then fs else fs ++ [⟨0, 0, 0, tx, []⟩]
/-- The sign behind a backslash, where it is one that has one. -/
def escN (c : Int) (r : List Int) : Option Int := if c = 92 then r.head?.bind fun d => if d ∈ outer then some d else none else none
/-- A format: its parts, the place of the / behind it. -/
def scan : Nat → List Int → List Form → List Int → Nat → Option (List Form × Nat)
  | 0, _, _, _, _ => none
  | _ + 1, [], _, _, _ => none
  | n + 1, c :: r, fs, tx, i =>
    if c = 47 then some (endT fs tx, i)
    else if c = 36 then
      match part r with
      | some (f, k) => scan n (r.drop k) (endT fs tx ++ [f]) [] (i + 1 + k)
      | none => scan n r fs (tx ++ [c]) (i + 1)
    else match escN c r with
      | some d => scan n r.tail fs (tx ++ [d]) (i + 2)
      | none => scan n r fs (tx ++ [c]) (i + 1)

def may1 (f : Form) : Bool :=
  f.text.all RX.isSign && f.els.all RX.isSign && decide (0 ≤ f.group) && decide (f.group ≤ 99) && decide (0 ≤ f.cas) && decide (f.cas ≤ 5) &&
  (if f.kind = 0 then !f.text.isEmpty && f.els.isEmpty && decide (f.group = 0) && decide (f.cas = 0)
   else if f.kind = 1 then f.text.isEmpty && f.els.isEmpty
   else if f.kind = 2 then f.els.isEmpty && decide (f.cas = 0)
   else if f.kind = 3 then f.text.isEmpty && decide (f.cas = 0)
   else if f.kind = 4 then decide (f.cas = 0)
   else false)
def mayR : Bool → List Form → Bool
  | _, [] => true
  | p, f :: r => may1 f && !(p && f.kind == 0) && mayR (f.kind == 0) r
def may (l : List Form) : Bool := mayR false l
def last0 : Bool → List Form → Bool
  | p, [] => p
  | _, f :: r => last0 (f.kind == 0) r

def guard (m s : List Int) : List Int := (s.map fun c => if c ∈ m then [92, c] else [c]).flatten
def dec (g : Int) : List Int := if g < 10 then [48 + g] else [48 + g / 10, 48 + g % 10]
def body (f : Form) : List Int :=
  if f.kind = 1 then (if f.cas = 0 then [] else 58 :: 47 :: names.getD (f.cas.toNat - 1) [])
  else if f.kind = 2 then 58 :: 43 :: guard marks f.text
  else if f.kind = 3 then 58 :: 45 :: guard marks f.els
  else if f.kind = 4 then 58 :: 63 :: (guard marks f.text ++ 58 :: guard marks f.els)
  else []
def put (f : Form) : List Int := if f.kind = 0 then guard outer f.text else 36 :: 123 :: (dec f.group ++ (body f ++ [125]))
def print (l : List Form) : List Int := (l.map put).flatten

theorem mayR_append : ∀ (a : List Form) (p : Bool) (b : List Form), mayR p (a ++ b) = (mayR p a && mayR (last0 p a) b)
  | [], p, b => rfl
  | f :: r, p, b => by simp only [List.cons_append, mayR, last0, mayR_append r]; simp only [Bool.and_assoc]
theorem last0_append : ∀ (a : List Form) (p : Bool) (f : Form), last0 p (a ++ [f]) = (f.kind == 0)
  | [], _, _ => rfl
  | _ :: r, _, f => last0_append r _ f

theorem guard_cons (m : List Int) (c : Int) (s : List Int) : guard m (c :: s) = (if c ∈ m then [92, c] else [c]) ++ guard m s := rfl
theorem guard_nil (m : List Int) : guard m [] = [] := rfl

theorem text_esc {e d : Int} {r : List Int} (h : d ∈ marks) : text e (92 :: d :: r) = (text e r).map (fun p => (d :: p.1, p.2 + 2)) := by
  rw [text, if_pos ⟨rfl, h⟩]
theorem text_stop {e : Int} {r : List Int} (he : e ≠ 92) : text e (e :: r) = some ([], 1) := by
  cases r with
  | nil => rw [text, if_pos rfl]
  | cons d r => rw [text, if_neg (fun h => he h.1), if_pos rfl]
theorem text_plain {e c : Int} {r : List Int} (hc : c ≠ e) (h : ¬ (c = 92 ∧ ∃ d r', r = d :: r' ∧ d ∈ marks)) : text e (c :: r) = (text e r).map (fun p => (c :: p.1, p.2 + 1)) := by
  cases r with
  | nil => show text e [c] = none; rw [text, if_neg hc]
  | cons d r => rw [text, if_neg (fun k => h ⟨k.1, d, r, rfl, k.2⟩), if_neg hc]
theorem guard_len (m : List Int) (c : Int) (s : List Int) : (guard m (c :: s)).length = (if c ∈ m then 2 else 1) + (guard m s).length := by
  rw [guard_cons, List.length_append]; split <;> rfl
/-- What is printed of a text is read again. -/
theorem text_guard {e : Int} (he : e ∈ marks) (he2 : e ≠ 92) (rest : List Int) : ∀ t : List Int, text e (guard marks t ++ e :: rest) = some (t, (guard marks t).length + 1)
  | [] => text_stop he2
  | c :: t => by
    have ih := text_guard he he2 rest t
    rw [guard_len, guard_cons]
    by_cases h : c ∈ marks
    · rw [if_pos h, if_pos h]
      show text e (92 :: c :: (guard marks t ++ e :: rest)) = _
      rw [text_esc h, ih]
      simp only [Option.map_some, Option.some.injEq, Prod.mk.injEq, true_and]; omega
    · rw [if_neg h, if_neg h]
      show text e (c :: (guard marks t ++ e :: rest)) = _
      rw [text_plain (fun k => h (by rw [k]; exact he)) (fun k => h (by rw [k.1]; decide)), ih]
      simp only [Option.map_some, Option.some.injEq, Prod.mk.injEq, true_and]; omega

theorem digs_le : ∀ l : List Int, digs l ≤ l.length
  | [] => Nat.le_refl _
  | c :: r => by
    have := digs_le r
    unfold digs; split <;> simp <;> omega
theorem dec_read {g : Int} (h0 : 0 ≤ g) (h1 : g ≤ 99) (x : Int) (hx : isD x = false) (r : List Int) : number (dec g ++ x :: r) = some (g, (dec g).length) := by
  have hs : ∀ c : Int, 48 ≤ c → c ≤ 57 → isD c = true := by intro c a b; simp [isD, a, b]
  unfold dec
  split
  · rename_i h
    have h2 : isD (48 + g) = true := hs _ (by omega) (by omega)
    have hd : digs ((48 + g) :: x :: r) = 1 := by simp [digs, h2, hx]
    show number ((48 + g) :: x :: r) = _
    unfold number
    rw [hd]
    simp [val]
    omega
  · rename_i h
    have h2 : isD (48 + g / 10) = true := hs _ (by omega) (by omega)
    have h3 : isD (48 + g % 10) = true := hs _ (by omega) (by omega)
    have hd : digs ((48 + g / 10) :: (48 + g % 10) :: x :: r) = 2 := by simp [digs, h2, h3, hx]
    show number ((48 + g / 10) :: (48 + g % 10) :: x :: r) = _
    unfold number
    rw [hd]
    simp [val]
    omega
theorem number_no {x : Int} (hx : isD x = false) (r : List Int) : number (x :: r) = none := by simp [number, digs, hx]
theorem dec_len (g : Int) : 1 ≤ (dec g).length ∧ (dec g).length ≤ 2 := by unfold dec; split <;> simp

theorem cased_read {c : Int} (h0 : 1 ≤ c) (h1 : c ≤ 5) (r : List Int) : cased (names.getD (c.toNat - 1) [] ++ 125 :: r) = some (c, (names.getD (c.toNat - 1) []).length + 1) := by
  have : c = 1 ∨ c = 2 ∨ c = 3 ∨ c = 4 ∨ c = 5 := by omega
  rcases this with rfl | rfl | rfl | rfl | rfl <;> simp [cased, casedL, names, nUp, nDown, nCap, nPascal, nCamel]

theorem may1_of {f : Form} (h : may1 f = true) : f.text.all RX.isSign = true ∧ f.els.all RX.isSign = true ∧ 0 ≤ f.group ∧ f.group ≤ 99 ∧ 0 ≤ f.cas ∧ f.cas ≤ 5 ∧
    ((f.kind = 0 ∧ f.text ≠ [] ∧ f.els = [] ∧ f.group = 0 ∧ f.cas = 0) ∨ (f.kind = 1 ∧ f.text = [] ∧ f.els = []) ∨ (f.kind = 2 ∧ f.els = [] ∧ f.cas = 0) ∨ (f.kind = 3 ∧ f.text = [] ∧ f.cas = 0) ∨ (f.kind = 4 ∧ f.cas = 0)) := by
  unfold may1 at h
  rw [Bool.and_eq_true] at h
  obtain ⟨h, hk⟩ := h
  simp only [Bool.and_eq_true, decide_eq_true_eq] at h
  obtain ⟨⟨⟨⟨⟨h1, h2⟩, h3⟩, h4⟩, h5⟩, h6⟩ := h
  refine ⟨h1, h2, h3, h4, h5, h6, ?_⟩
  split at hk
  · simp at hk; simp_all
  split at hk
  · simp at hk; simp_all
  split at hk
  · simp at hk; simp_all
  split at hk
  · simp at hk; simp_all
  split at hk
  · simp at hk; simp_all
  · cases hk
theorem form_eta (f : Form) {k g c : Int} {t e : List Int} (h1 : f.kind = k) (h2 : f.group = g) (h3 : f.cas = c) (h4 : f.text = t) (h5 : f.els = e) : f = ⟨k, g, c, t, e⟩ := by
  subst h1 h2 h3 h4 h5; rfl
/-- What is printed of a part is read again. -/
theorem part_put {f : Form} (h : may1 f = true) (hk : f.kind ≠ 0) (rest : List Int) : ∃ r, put f = 36 :: r ∧ part (r ++ rest) = some (f, r.length) := by
  obtain ⟨h1, h2, h3, h4, h5, h6, hh⟩ := may1_of h
  refine ⟨123 :: (dec f.group ++ (body f ++ [125])), by unfold put; rw [if_neg hk], ?_⟩
  have hno : ∀ r, number (123 :: r) = none := number_no (by decide)
  show part (123 :: (dec f.group ++ (body f ++ [125]) ++ rest)) = _
  unfold part
  rw [hno]
  simp only [List.head?_cons, if_true, List.tail_cons]
  rcases hh with ⟨hk0, _⟩ | ⟨hk1, ht, he⟩ | ⟨hk1, he, hc⟩ | ⟨hk1, ht, hc⟩ | ⟨hk1, hc⟩
  · exact absurd hk0 hk
  · by_cases hc : f.cas = 0
    · have hb : body f = [] := by unfold body; rw [if_pos hk1, if_pos hc]
      rw [hb]
      simp only [List.nil_append, List.append_assoc, List.cons_append]
      rw [dec_read h3 h4 125 (by decide)]
      simp only [List.drop_left, List.head?_cons, if_true, List.length_cons, List.length_append, List.length_nil]
      rw [← form_eta f hk1 rfl hc ht he]
    · have hb : body f = 58 :: 47 :: names.getD (f.cas.toNat - 1) [] := by unfold body; rw [if_pos hk1, if_neg hc]
      rw [hb]
      simp only [List.append_assoc, List.cons_append, List.nil_append]
      rw [dec_read h3 h4 58 (by decide)]
      simp only [List.drop_left, List.head?_cons, Option.some.injEq, (by decide : ¬ (58 : Int) = 125), if_false, if_true, List.tail_cons]
      unfold inner
      simp only [List.head?_cons, if_true, List.tail_cons]
      rw [cased_read (by omega) h6]
      simp only [Option.map_some, Option.some.injEq, Prod.mk.injEq, List.length_cons, List.length_append, List.length_nil]
      exact ⟨(form_eta f hk1 rfl rfl ht he).symm, by omega⟩
  · have hb : body f = 58 :: 43 :: guard marks f.text := by unfold body; rw [if_neg (by omega), if_pos hk1]
    rw [hb]
    simp only [List.append_assoc, List.cons_append, List.nil_append]
    rw [dec_read h3 h4 58 (by decide)]
    simp only [List.drop_left, List.head?_cons, Option.some.injEq, (by decide : ¬ (58 : Int) = 125), if_false, if_true, List.tail_cons]
    unfold inner
    simp only [List.head?_cons, Option.some.injEq, (by decide : ¬ (43 : Int) = 47), if_false, if_true, List.tail_cons]
    rw [text_guard (by decide) (by decide)]
    simp only [Option.map_some, Option.some.injEq, Prod.mk.injEq, List.length_cons, List.length_append, List.length_nil]
    exact ⟨(form_eta f hk1 rfl hc rfl he).symm, by omega⟩
  · have hb : body f = 58 :: 45 :: guard marks f.els := by unfold body; rw [if_neg (by omega), if_neg (by omega), if_pos hk1]
    rw [hb]
    simp only [List.append_assoc, List.cons_append, List.nil_append]
    rw [dec_read h3 h4 58 (by decide)]
    simp only [List.drop_left, List.head?_cons, Option.some.injEq, (by decide : ¬ (58 : Int) = 125), if_false, if_true, List.tail_cons]
    unfold inner
    simp only [List.head?_cons, Option.some.injEq, (by decide : ¬ (45 : Int) = 47), (by decide : ¬ (45 : Int) = 43), (by decide : ¬ (45 : Int) = 63), if_false, if_true, List.tail_cons]
    rw [text_guard (by decide) (by decide)]
    simp only [Option.map_some, Option.some.injEq, Prod.mk.injEq, List.length_cons, List.length_append, List.length_nil]
    exact ⟨(form_eta f hk1 rfl hc ht rfl).symm, by omega⟩
  · have hb : body f = 58 :: 63 :: (guard marks f.text ++ 58 :: guard marks f.els) := by unfold body; rw [if_neg (by omega), if_neg (by omega), if_neg (by omega), if_pos hk1]
    rw [hb]
    simp only [List.append_assoc, List.cons_append, List.nil_append]
    rw [dec_read h3 h4 58 (by decide)]
    simp only [List.drop_left, List.head?_cons, Option.some.injEq, (by decide : ¬ (58 : Int) = 125), if_false, if_true, List.tail_cons]
    unfold inner
    simp only [List.head?_cons, Option.some.injEq, (by decide : ¬ (63 : Int) = 47), (by decide : ¬ (63 : Int) = 43), if_false, if_true, List.tail_cons]
    rw [text_guard (by decide) (by decide)]
    simp only
    rw [show (guard marks f.text).length + 1 = (guard marks f.text ++ [58]).length by simp, show guard marks f.text ++ 58 :: (guard marks f.els ++ 125 :: rest) = (guard marks f.text ++ [58]) ++ (guard marks f.els ++ 125 :: rest) by simp, List.drop_left]
    rw [text_guard (by decide) (by decide)]
    simp only [Option.map_some, Option.some.injEq, Prod.mk.injEq, List.length_cons, List.length_append, List.length_nil]
    exact ⟨(form_eta f hk1 rfl hc rfl rfl).symm, by omega⟩

theorem scan_part {n : Nat} {r : List Int} {f : Form} {k i : Nat} {fs : List Form} {tx : List Int} (h : part r = some (f, k)) : scan (n + 1) (36 :: r) fs tx i = scan n (r.drop k) (endT fs tx ++ [f]) [] (i + 1 + k) := by
  rw [scan, if_neg (by decide), if_pos rfl, h]
theorem scan_esc {n : Nat} {d : Int} {r : List Int} {i : Nat} {fs : List Form} {tx : List Int} (h : d ∈ outer) : scan (n + 1) (92 :: d :: r) fs tx i = scan n r fs (tx ++ [d]) (i + 2) := by
  have e : escN 92 (d :: r) = some d := by simp [escN, h]
  rw [scan, if_neg (by decide), if_neg (by decide), e]; rfl
theorem escN_none {c : Int} {r : List Int} (h3 : ¬ (c = 92 ∧ ∃ d r', r = d :: r' ∧ d ∈ outer)) : escN c r = none := by
  unfold escN
  split
  · rename_i hc
    cases r with
    | nil => rfl
    | cons d r =>
      show (if d ∈ outer then some d else none) = none
      rw [if_neg (fun k => h3 ⟨hc, d, r, rfl, k⟩)]
  · rfl
theorem escN_some {c d : Int} {r : List Int} (h : escN c r = some d) : c = 92 ∧ d ∈ outer ∧ ∃ r', r = d :: r' := by
  unfold escN at h
  split at h
  · rename_i hc
    cases r with
    | nil => cases h
    | cons e r =>
      have h : (if e ∈ outer then some e else none) = some d := h
      split at h
      · injection h with h; subst h; exact ⟨hc, ‹_›, r, rfl⟩
      · cases h
  · cases h
theorem scan_plain {n : Nat} {c : Int} {r : List Int} {i : Nat} {fs : List Form} {tx : List Int} (h1 : c ≠ 47) (h2 : c = 36 → part r = none) (h3 : ¬ (c = 92 ∧ ∃ d r', r = d :: r' ∧ d ∈ outer)) : scan (n + 1) (c :: r) fs tx i = scan n r fs (tx ++ [c]) (i + 1) := by
  rw [scan, if_neg h1]
  by_cases hc : c = 36
  · rw [if_pos hc, h2 hc]
  · rw [if_neg hc, escN_none h3]
/-- Fuel enough is fuel enough. -/
theorem scan_fuel : ∀ (n m : Nat) (l : List Int) (fs : List Form) (tx : List Int) (i : Nat), l.length < n → l.length < m → scan n l fs tx i = scan m l fs tx i
  | 0, _, _, _, _, _, h, _ => by omega
  | _ + 1, 0, _, _, _, _, _, h => by omega
  | n + 1, m + 1, [], fs, tx, i, _, _ => rfl
  | n + 1, m + 1, c :: r, fs, tx, i, h1, h2 => by
    have hn : r.length < n := by simpa using h1
    have hm : r.length < m := by simpa using h2
    unfold scan
    split
    · rfl
    split
    · split
      · rename_i f k _
        exact scan_fuel n m _ _ _ _ (by rw [List.length_drop]; omega) (by rw [List.length_drop]; omega)
      · exact scan_fuel n m _ _ _ _ hn hm
    · split
      · exact scan_fuel n m _ _ _ _ (by rw [List.length_tail]; omega) (by rw [List.length_tail]; omega)
      · exact scan_fuel n m _ _ _ _ hn hm

theorem scan_guard (rest : List Int) (fs : List Form) : ∀ (t : List Int) (n : Nat) (tx : List Int) (i : Nat), (guard outer t ++ rest).length < n → rest ≠ [] →
    ∃ m, rest.length < m ∧ scan n (guard outer t ++ rest) fs tx i = scan m rest fs (tx ++ t) (i + (guard outer t).length)
  | [], n, tx, i, hn, _ => ⟨n, hn, by simp [guard_nil]⟩
  | c :: t, n + 1, tx, i, hn, hr => by
    rw [guard_len]
    by_cases h : c ∈ outer
    · have e : guard outer (c :: t) ++ rest = 92 :: c :: (guard outer t ++ rest) := by rw [guard_cons, if_pos h]; rfl
      rw [e] at hn ⊢
      obtain ⟨m, hm, ih⟩ := scan_guard rest fs t n (tx ++ [c]) (i + 2) (by simp at hn ⊢; omega) hr
      refine ⟨m, hm, ?_⟩
      rw [scan_esc h, ih, if_pos h, List.append_assoc, Nat.add_assoc]; rfl
    · have e : guard outer (c :: t) ++ rest = c :: (guard outer t ++ rest) := by rw [guard_cons, if_neg h]; rfl
      rw [e] at hn ⊢
      obtain ⟨m, hm, ih⟩ := scan_guard rest fs t n (tx ++ [c]) (i + 1) (by simp at hn ⊢; omega) hr
      refine ⟨m, hm, ?_⟩
      rw [scan_plain (fun k => h (by rw [k]; decide)) (fun k => absurd (by rw [k]; decide) h) (fun k => h (by rw [k.1]; decide)), ih, if_neg h, List.append_assoc, Nat.add_assoc]; rfl

theorem endT_nil (fs : List Form) : endT fs [] = fs := by unfold endT; rw [if_pos rfl]
theorem scan_print_aux (more : List Int) : ∀ (l : List Form) (n : Nat) (fs : List Form) (tx : List Int) (i : Nat), mayR (decide (tx ≠ [])) l = true → (print l ++ 47 :: more).length < n →
    scan n (print l ++ 47 :: more) fs tx i = some (endT fs tx ++ l, i + (print l).length)
  | [], n + 1, fs, tx, i, _, _ => by
    show scan (n + 1) (47 :: more) fs tx i = _
    rw [scan, if_pos rfl, List.append_nil]; rfl
  | f :: l, n + 1, fs, tx, i, hm, hn => by
    unfold mayR at hm
    simp only [Bool.and_eq_true] at hm
    obtain ⟨⟨h1, h2⟩, h3⟩ := hm
    have e : print (f :: l) = put f ++ print l := rfl
    rw [e] at hn ⊢
    rw [List.append_assoc] at hn ⊢
    by_cases hk : f.kind = 0
    · have htx : tx = [] := by
        rcases hd : decide (tx ≠ []) with _ | _
        · simpa using hd
        · rw [hd, hk] at h2; simp at h2
      subst htx
      obtain ⟨_, _, _, _, _, _, hh⟩ := may1_of h1
      obtain ⟨_, ht, he, hg, hc⟩ : f.kind = 0 ∧ f.text ≠ [] ∧ f.els = [] ∧ f.group = 0 ∧ f.cas = 0 := by
        rcases hh with h | h | h | h | h
        · exact h
        all_goals (exfalso; have := h.1; omega)
      have hp : put f = guard outer f.text := by unfold put; rw [if_pos hk]
      rw [hp] at hn ⊢
      obtain ⟨m, hm, ih⟩ := scan_guard (print l ++ 47 :: more) fs f.text (n + 1) [] i hn (by simp)
      rw [ih, List.nil_append]
      have h4 : (f.kind == 0) = decide (f.text ≠ []) := by rw [hk]; simp [ht]
      rw [h4] at h3
      rw [scan_print_aux more l m fs f.text _ h3 hm]
      have : endT fs f.text = fs ++ [f] := by unfold endT; rw [if_neg ht, form_eta f hk hg hc rfl he]
      rw [this, endT_nil, List.append_assoc, List.length_append, Nat.add_assoc]; rfl
    · obtain ⟨r, hr, hpr⟩ := part_put h1 hk (print l ++ 47 :: more)
      rw [hr] at hn ⊢
      have h4 : (f.kind == 0) = decide (([] : List Int) ≠ []) := by simp [hk]
      rw [h4] at h3
      rw [List.cons_append, scan_part hpr, List.drop_left]
      rw [scan_print_aux more l n _ [] _ h3 (by simp at hn ⊢; omega)]
      rw [endT_nil, List.append_assoc, List.length_append, List.length_cons]
      congr 2
      omega
def scanAll (s : List Int) : Option (List Form × Nat) := scan (s.length + 1) s [] [] 0
/-- What is printed is read again. -/
theorem scan_print {l : List Form} (h : may l = true) (more : List Int) : scanAll (print l ++ 47 :: more) = some (l, (print l).length) := by
  unfold scanAll
  rw [scan_print_aux more l _ [] [] 0 h (Nat.lt_succ_self _)]
  simp [endT_nil]
end Go.Proofs.Ytfblkahjefdmaaa.FM

/- Plain law: what a scan returns may be a format; a made format with a / behind it is scanned. No program in sight. -/
namespace Go.Proofs.Ytfblkahjefdmaaa.FM

theorem all_drop {p : Int → Bool} {l : List Int} (h : l.all p = true) (k : Nat) : (l.drop k).all p = true := by
  rw [List.all_eq_true] at *; exact fun x hx => h x (List.mem_of_mem_drop hx)
theorem all_tail {p : Int → Bool} {l : List Int} (h : l.all p = true) : l.tail.all p = true := by
  rw [← List.drop_one]; exact all_drop h 1
theorem digs_two (l : List Int) (h : digs l ≤ 2) : 0 ≤ val (l.take (digs l)) ∧ val (l.take (digs l)) ≤ 99 := by
  have hd : ∀ c : Int, isD c = true → 48 ≤ c ∧ c ≤ 57 := by intro c hc; simpa [isD] using hc
  match l with
  | [] => simp [digs, val]
  | a :: r =>
    by_cases ha : isD a = true
    · have h1 := hd a ha
      rw [digs, if_pos ha] at h ⊢
      match r with
      | [] => simp [digs, val]; omega
      | b :: r =>
        by_cases hb : isD b = true
        · have h2 := hd b hb
          rw [digs, if_pos hb] at h ⊢
          rw [show digs r = 0 by omega]
          simp [val]; omega
        · rw [digs, if_neg hb]
          simp [val]; omega
    · rw [digs, if_neg ha]
      simp [val]
theorem number_ok {l : List Int} {n : Int} {k : Nat} (h : number l = some (n, k)) : 0 ≤ n ∧ n ≤ 99 ∧ 1 ≤ k ∧ k ≤ 2 ∧ k ≤ l.length := by
  unfold number at h
  split at h
  · cases h
  · rename_i hk
    injection h with h
    injection h with h1 h2
    subst h1 h2
    have := digs_two l (by omega)
    have := digs_le l
    omega
theorem text_ok (e : Int) : ∀ (n : Nat) (l : List Int) (t : List Int) (k : Nat), l.length ≤ n → text e l = some (t, k) → l.all RX.isSign = true → t.all RX.isSign = true ∧ 1 ≤ k ∧ k ≤ l.length
  | _, [], t, k, _, h, _ => by cases h
  | _, [c], t, k, _, h, _ => by
    rw [text] at h
    split at h
    · injection h with h; injection h with h1 h2; subst h1 h2; exact ⟨rfl, Nat.le_refl _, by simp⟩
    · cases h
  | 0, _ :: _ :: _, _, _, hn, _, _ => by simp at hn
  | n + 1, c :: d :: r, t, k, hn, h, ha => by
    simp only [List.all_cons, Bool.and_eq_true] at ha
    obtain ⟨hc, hd, hr⟩ := ha
    rw [text] at h
    split at h
    · rw [Option.map_eq_some_iff] at h
      obtain ⟨⟨t', k'⟩, h1, h2⟩ := h
      injection h2 with h2 h3
      subst h2 h3
      have := text_ok e n r t' k' (by simp at hn; omega) h1 hr
      refine ⟨?_, by omega, by simp; omega⟩
      simp only [List.all_cons, hd, this.1]; rfl
    split at h
    · injection h with h; injection h with h1 h2; subst h1 h2; exact ⟨rfl, Nat.le_refl _, by simp⟩
    · rw [Option.map_eq_some_iff] at h
      obtain ⟨⟨t', k'⟩, h1, h2⟩ := h
      injection h2 with h2 h3
      subst h2 h3
      have := text_ok e n (d :: r) t' k' (by simp at hn ⊢; omega) h1 (by simp only [List.all_cons, hd, hr]; rfl)
      refine ⟨?_, by omega, by have := this.2.2; simp at this ⊢; omega⟩
      simp only [List.all_cons, hc, this.1]; rfl
theorem casedL_ok : ∀ (ws : List (List Int)) (i : Int) (l : List Int) (c : Int) (k : Nat), casedL ws i l = some (c, k) → i ≤ c ∧ c < i + ws.length ∧ 1 ≤ k ∧ k ≤ l.length
  | [], _, _, _, _, h => by cases h
  | w :: ws, i, l, c, k, h => by
    rw [casedL] at h
    split at h
    · rename_i hp
      injection h with h
      injection h with h1 h2
      subst h1 h2
      have := congrArg List.length hp
      rw [List.length_take, List.length_append] at this
      simp at this ⊢; omega
    · have := casedL_ok ws (i + 1) l c k h
      simp; omega
theorem cased_ok {l : List Int} {c : Int} {k : Nat} (h : cased l = some (c, k)) : 1 ≤ c ∧ c ≤ 5 ∧ 1 ≤ k ∧ k ≤ l.length := by
  have := casedL_ok _ _ _ _ _ h
  simp [names] at this; omega
theorem head_tail {l : List Int} {c : Int} (h : l.head? = some c) : l.tail.length + 1 = l.length := by
  cases l with
  | nil => cases h
  | cons _ r => rfl
theorem may1_mk {f : Form} (h1 : f.text.all RX.isSign = true) (h2 : f.els.all RX.isSign = true) (h3 : 0 ≤ f.group) (h4 : f.group ≤ 99) (h5 : 0 ≤ f.cas) (h6 : f.cas ≤ 5)
    (h : (f.kind = 0 ∧ f.text ≠ [] ∧ f.els = [] ∧ f.group = 0 ∧ f.cas = 0) ∨ (f.kind = 1 ∧ f.text = [] ∧ f.els = []) ∨ (f.kind = 2 ∧ f.els = [] ∧ f.cas = 0) ∨ (f.kind = 3 ∧ f.text = [] ∧ f.cas = 0) ∨ (f.kind = 4 ∧ f.cas = 0)) : may1 f = true := by
  unfold may1
  rw [Bool.and_eq_true]
  refine ⟨by simp only [h1, h2, Bool.and_eq_true, decide_eq_true_eq]; exact ⟨⟨⟨⟨⟨trivial, trivial⟩, h3⟩, h4⟩, h5⟩, h6⟩, ?_⟩
  rcases h with ⟨hk, ht, he, hg, hc⟩ | ⟨hk, ht, he⟩ | ⟨hk, he, hc⟩ | ⟨hk, ht, hc⟩ | ⟨hk, hc⟩
  · rw [if_pos hk]; simp [ht, he, hg, hc]
  · rw [if_neg (by omega), if_pos hk]; simp [ht, he]
  · rw [if_neg (by omega), if_neg (by omega), if_pos hk]; simp [he, hc]
  · rw [if_neg (by omega), if_neg (by omega), if_neg (by omega), if_pos hk]; simp [ht, hc]
  · rw [if_neg (by omega), if_neg (by omega), if_neg (by omega), if_neg (by omega), if_pos hk]; simp [hc]
theorem inner_ok {g : Int} {l : List Int} {f : Form} {k : Nat} (h : inner g l = some (f, k)) (h0 : 0 ≤ g) (h1 : g ≤ 99) (ha : l.all RX.isSign = true) : may1 f = true ∧ f.kind ≠ 0 ∧ 1 ≤ k ∧ k ≤ l.length := by
  have ht := all_tail ha
  unfold inner at h
  split at h
  · rename_i hh
    have := head_tail hh
    rw [Option.map_eq_some_iff] at h
    obtain ⟨⟨c, k'⟩, h2, h3⟩ := h
    injection h3 with h3 h4
    subst h3 h4
    have := cased_ok h2
    exact ⟨may1_mk rfl rfl h0 h1 (by show 0 ≤ c; omega) (by show c ≤ 5; omega) (.inr (.inl ⟨rfl, rfl, rfl⟩)), by show (1 : Int) ≠ 0; decide, by show 1 ≤ k' + 1; omega, by show k' + 1 ≤ _; omega⟩
  split at h
  · rename_i hh
    have := head_tail hh
    rw [Option.map_eq_some_iff] at h
    obtain ⟨⟨c, k'⟩, h2, h3⟩ := h
    injection h3 with h3 h4
    subst h3 h4
    have := text_ok _ _ _ _ _ (Nat.le_refl _) h2 ht
    exact ⟨may1_mk this.1 rfl h0 h1 (by show (0 : Int) ≤ 0; decide) (by show (0 : Int) ≤ 5; decide) (.inr (.inr (.inl ⟨rfl, rfl, rfl⟩))), by show (2 : Int) ≠ 0; decide, by show 1 ≤ k' + 1; omega, by show k' + 1 ≤ _; omega⟩
  split at h
  · rename_i hh
    have := head_tail hh
    split at h
    · cases h
    · rename_i p hp
      obtain ⟨t, k1⟩ := p
      rw [Option.map_eq_some_iff] at h
      obtain ⟨⟨c, k'⟩, h2, h3⟩ := h
      injection h3 with h3 h4
      subst h3 h4
      have h5 := text_ok _ _ _ _ _ (Nat.le_refl _) hp ht
      have h6 := text_ok _ _ _ _ _ (Nat.le_refl _) h2 (all_drop ht _)
      have h7 := h6.2.2
      rw [List.length_drop] at h7
      exact ⟨may1_mk h5.1 h6.1 h0 h1 (by show (0 : Int) ≤ 0; decide) (by show (0 : Int) ≤ 5; decide) (.inr (.inr (.inr (.inr ⟨rfl, rfl⟩)))), by show (4 : Int) ≠ 0; decide, by show 1 ≤ k1 + k' + 1; omega, by show k1 + k' + 1 ≤ _; simp only at h7; omega⟩
  split at h
  · rename_i hh
    have := head_tail hh
    rw [Option.map_eq_some_iff] at h
    obtain ⟨⟨c, k'⟩, h2, h3⟩ := h
    injection h3 with h3 h4
    subst h3 h4
    have := text_ok _ _ _ _ _ (Nat.le_refl _) h2 ht
    exact ⟨may1_mk rfl this.1 h0 h1 (by show (0 : Int) ≤ 0; decide) (by show (0 : Int) ≤ 5; decide) (.inr (.inr (.inr (.inl ⟨rfl, rfl, rfl⟩)))), by show (3 : Int) ≠ 0; decide, by show 1 ≤ k' + 1; omega, by show k' + 1 ≤ _; omega⟩
  · rw [Option.map_eq_some_iff] at h
    obtain ⟨⟨c, k'⟩, h2, h3⟩ := h
    injection h3 with h3 h4
    subst h3 h4
    have := text_ok _ _ _ _ _ (Nat.le_refl _) h2 ha
    exact ⟨may1_mk rfl this.1 h0 h1 (by show (0 : Int) ≤ 0; decide) (by show (0 : Int) ≤ 5; decide) (.inr (.inr (.inr (.inl ⟨rfl, rfl, rfl⟩)))), by show (3 : Int) ≠ 0; decide, this.2.1, this.2.2⟩
theorem part_ok {l : List Int} {f : Form} {k : Nat} (h : part l = some (f, k)) (ha : l.all RX.isSign = true) : may1 f = true ∧ f.kind ≠ 0 ∧ 1 ≤ k ∧ k ≤ l.length := by
  unfold part at h
  split at h
  · rename_i n k' hn
    injection h with h
    injection h with h1 h2
    subst h1 h2
    have := number_ok hn
    exact ⟨may1_mk rfl rfl this.1 this.2.1 (by show (0 : Int) ≤ 0; decide) (by show (0 : Int) ≤ 5; decide) (.inr (.inl ⟨rfl, rfl, rfl⟩)), by show (1 : Int) ≠ 0; decide, by omega, by omega⟩
  · split at h
    · rename_i hh
      have := head_tail hh
      split at h
      · cases h
      · rename_i n k' hn
        have h5 := number_ok hn
        split at h
        · rename_i h6
          injection h with h
          injection h with h1 h2
          subst h1 h2
          have h7 := head_tail h6
          rw [List.length_drop] at h7
          exact ⟨may1_mk rfl rfl h5.1 h5.2.1 (by show (0 : Int) ≤ 0; decide) (by show (0 : Int) ≤ 5; decide) (.inr (.inl ⟨rfl, rfl, rfl⟩)), by show (1 : Int) ≠ 0; decide, by omega, by omega⟩
        · split at h
          · rename_i h6
            rw [Option.map_eq_some_iff] at h
            obtain ⟨⟨f', k2⟩, h2, h3⟩ := h
            injection h3 with h3 h4
            subst h3 h4
            have h7 := head_tail h6
            rw [List.length_drop] at h7
            have h8 := inner_ok h2 h5.1 h5.2.1 (all_tail (all_drop (all_tail ha) _))
            exact ⟨h8.1, h8.2.1, by show 1 ≤ k2 + k' + 2; omega, by show k2 + k' + 2 ≤ _; have := h8.2.2.2; omega⟩
          · cases h
    · cases h
theorem endT_may {fs : List Form} {tx : List Int} (h1 : mayR false fs = true) (h2 : last0 false fs = false) (h3 : tx.all RX.isSign = true) : mayR false (endT fs tx) = true := by
  unfold endT
  split
  · exact h1
  · rename_i hne
    rw [mayR_append, h1, h2]
    have : may1 ⟨0, 0, 0, tx, []⟩ = true := may1_mk h3 rfl (by show (0 : Int) ≤ 0; decide) (by show (0 : Int) ≤ 99; decide) (by show (0 : Int) ≤ 0; decide) (by show (0 : Int) ≤ 5; decide) (.inl ⟨rfl, hne, rfl, rfl, rfl⟩)
    simp [mayR, this]
/-- What a scan returns may be, and lies ahead of a /. -/
theorem scan_ok : ∀ (n : Nat) (l : List Int) (fs : List Form) (tx : List Int) (i : Nat) (r : List Form) (j : Nat), scan n l fs tx i = some (r, j) → l.all RX.isSign = true → tx.all RX.isSign = true → mayR false fs = true → last0 false fs = false →
    may r = true ∧ i ≤ j ∧ l[j - i]? = some 47
  | 0, _, _, _, _, _, _, h, _, _, _, _ => by cases h
  | _ + 1, [], _, _, _, _, _, h, _, _, _, _ => by cases h
  | n + 1, c :: l, fs, tx, i, r, j, h, ha, ht, hf, hl => by
    simp only [List.all_cons, Bool.and_eq_true] at ha
    obtain ⟨hc, ha⟩ := ha
    have htc : (tx ++ [c]).all RX.isSign = true := by rw [List.all_append, ht]; simp [hc]
    have plain : scan n l fs (tx ++ [c]) (i + 1) = some (r, j) → may r = true ∧ i ≤ j ∧ (c :: l)[j - i]? = some 47 := by
      intro h
      have := scan_ok n l fs _ _ r j h ha htc hf hl
      refine ⟨this.1, by omega, ?_⟩
      rw [show j - i = (j - (i + 1)) + 1 by omega, List.getElem?_cons_succ]; exact this.2.2
    rw [scan] at h
    split at h
    · rename_i hc
      injection h with h
      injection h with h1 h2
      subst h1 h2 hc
      exact ⟨endT_may hf hl ht, Nat.le_refl _, by simp⟩
    split at h
    · split at h
      · rename_i f k hp
        have h5 := part_ok hp ha
        have h6 := scan_ok n _ _ _ _ r j h (all_drop ha _) rfl (by rw [mayR_append, endT_may hf hl ht]; simp [mayR, h5.1, h5.2.1]) (by rw [last0_append]; simp [h5.2.1])
        refine ⟨h6.1, by omega, ?_⟩
        have h7 := h6.2.2
        rw [List.getElem?_drop] at h7
        rw [show j - i = (k + (j - (i + 1 + k))) + 1 by omega, List.getElem?_cons_succ]; exact h7
      · exact plain h
    · split at h
      · rename_i d hd
        obtain ⟨_, _, r', rfl⟩ := escN_some hd
        simp only [List.all_cons, Bool.and_eq_true] at ha
        have h6 := scan_ok n _ _ _ _ r j h ha.2 (by rw [List.all_append, ht]; simp [ha.1]) hf hl
        refine ⟨h6.1, by omega, ?_⟩
        rw [show j - i = (j - (i + 2)) + 1 + 1 by omega, List.getElem?_cons_succ, List.getElem?_cons_succ]; exact h6.2.2
      · exact plain h
theorem scanAll_ok {s : List Int} {r : List Form} {j : Nat} (h : scanAll s = some (r, j)) (hs : s.all RX.isSign = true) : may r = true ∧ s[j]? = some 47 := by
  have := scan_ok _ _ _ _ _ _ _ h hs rfl rfl rfl
  exact ⟨this.1, by simpa using this.2.2⟩

/-- The pieces that formats are made of. -/
def pieces : List (List Int) := [[36, 49], [36, 123, 49, 125], [36, 123, 48, 58, 47, 117, 112, 99, 97, 115, 101, 125], [36, 123, 49, 58, 47, 112, 97, 115, 99, 97, 108, 99, 97, 115, 101, 125], [36, 123, 49, 58, 43, 120, 125], [36, 123, 49, 58, 45, 121, 125], [36, 123, 49, 58, 63, 120, 58, 121, 125], [36, 123, 49, 58, 122, 125], [97], [45], [36], [92, 47], [36, 123, 49, 58, 47, 110, 111, 125], [36, 49, 50], [92, 36, 49], [36, 123, 50, 58, 47, 99, 97, 109, 101, 108, 99, 97, 115, 101, 125], [36, 49, 50, 51]]
/-- What is scanned wherever it stands. -/
def Scans (l : List Int) : Prop := ∀ n fs tx i, l.length < n → (scan n l fs tx i).isSome = true
def Starts (l : List Int) : Prop := ∃ d r, l = d :: r ∧ isD d = false ∧ d ≠ 123
theorem scans_end (more : List Int) : Scans (47 :: more) := by
  intro n fs tx i h
  cases n with
  | zero => omega
  | succ n => rw [scan, if_pos rfl]; rfl
theorem Scans.part {r rest : List Int} {f : Form} (h : FM.part (r ++ rest) = some (f, r.length)) (hs : Scans rest) : Scans (36 :: (r ++ rest)) := by
  intro n fs tx i hn
  cases n with
  | zero => omega
  | succ n => rw [scan_part h, List.drop_left]; exact hs _ _ _ _ (by simp at hn; omega)
theorem Scans.plain {c : Int} {l : List Int} (h : Scans l) (h1 : c ≠ 47) (h2 : c = 36 → FM.part l = none) (h3 : c ≠ 92) : Scans (c :: l) := by
  intro n fs tx i hn
  cases n with
  | zero => omega
  | succ n => rw [scan_plain h1 h2 (fun k => h3 k.1)]; exact h _ _ _ _ (by simpa using hn)
theorem Scans.esc {d : Int} {l : List Int} (h : Scans l) (h1 : d ∈ outer) : Scans (92 :: d :: l) := by
  intro n fs tx i hn
  cases n with
  | zero => omega
  | succ n => rw [scan_esc h1]; exact h _ _ _ _ (by simp at hn; omega)
theorem number_one {a d : Int} {r : List Int} (ha : isD a = true) (h : isD d = false) : number (a :: d :: r) = some (a - 48, 1) := by
  simp [number, digs, ha, h, val]
theorem number_two {a b d : Int} {r : List Int} (ha : isD a = true) (hb : isD b = true) (h : isD d = false) : number (a :: b :: d :: r) = some (10 * (a - 48) + (b - 48), 2) := by
  simp [number, digs, ha, hb, h, val]
theorem number_three {a b c : Int} {r : List Int} (ha : isD a = true) (hb : isD b = true) (hc : isD c = true) : number (a :: b :: c :: r) = none := by
  simp [number, digs, ha, hb, hc]
theorem piece_scans {p rest : List Int} (hp : p ∈ pieces) (hs : Starts rest) (h : Scans rest) : Scans (p ++ rest) ∧ Starts (p ++ rest) := by
  obtain ⟨d, r, rfl, hd, hb⟩ := hs
  have n1 : ∀ x, number (123 :: x) = none := number_no (by decide)
  simp only [pieces, List.mem_cons, List.not_mem_nil, or_false] at hp
  rcases hp with rfl | rfl | rfl | rfl | rfl | rfl | rfl | rfl | rfl | rfl | rfl | rfl | rfl | rfl | rfl | rfl | rfl
  all_goals refine ⟨?_, ⟨_, _, rfl, by decide, by decide⟩⟩
  · exact Scans.part (r := [49]) (f := ⟨1, 1, 0, [], []⟩) (by show FM.part (49 :: d :: r) = _; unfold FM.part; rw [number_one (by decide) hd]; rfl) h
  · exact Scans.part (r := [123, 49, 125]) (f := ⟨1, 1, 0, [], []⟩) (by show FM.part (123 :: 49 :: 125 :: d :: r) = _; unfold FM.part; rw [n1]; simp [number_one, isD]) h
  · exact Scans.part (r := [123, 48, 58, 47, 117, 112, 99, 97, 115, 101, 125]) (f := ⟨1, 0, 1, [], []⟩) (by show FM.part (123 :: 48 :: 58 :: 47 :: 117 :: 112 :: 99 :: 97 :: 115 :: 101 :: 125 :: d :: r) = _; unfold FM.part; rw [n1]; simp [number_one, isD, inner, cased, casedL, names, nUp]) h
  · exact Scans.part (r := [123, 49, 58, 47, 112, 97, 115, 99, 97, 108, 99, 97, 115, 101, 125]) (f := ⟨1, 1, 4, [], []⟩) (by show FM.part (123 :: 49 :: 58 :: 47 :: 112 :: 97 :: 115 :: 99 :: 97 :: 108 :: 99 :: 97 :: 115 :: 101 :: 125 :: d :: r) = _; unfold FM.part; rw [n1]; simp [number_one, isD, inner, cased, casedL, names, nUp, nDown, nCap, nPascal]) h
  · exact Scans.part (r := [123, 49, 58, 43, 120, 125]) (f := ⟨2, 1, 0, [120], []⟩) (by show FM.part (123 :: 49 :: 58 :: 43 :: 120 :: 125 :: d :: r) = _; unfold FM.part; rw [n1]; simp [number_one, isD, inner, text, marks]) h
  · exact Scans.part (r := [123, 49, 58, 45, 121, 125]) (f := ⟨3, 1, 0, [], [121]⟩) (by show FM.part (123 :: 49 :: 58 :: 45 :: 121 :: 125 :: d :: r) = _; unfold FM.part; rw [n1]; simp [number_one, isD, inner, text, marks]) h
  · exact Scans.part (r := [123, 49, 58, 63, 120, 58, 121, 125]) (f := ⟨4, 1, 0, [120], [121]⟩) (by show FM.part (123 :: 49 :: 58 :: 63 :: 120 :: 58 :: 121 :: 125 :: d :: r) = _; unfold FM.part; rw [n1]; simp [number_one, isD, inner, text, marks]) h
  · exact Scans.part (r := [123, 49, 58, 122, 125]) (f := ⟨3, 1, 0, [], [122]⟩) (by show FM.part (123 :: 49 :: 58 :: 122 :: 125 :: d :: r) = _; unfold FM.part; rw [n1]; simp [number_one, isD, inner, text, marks]) h
  · exact h.plain (by decide) (by intro h; exact absurd h (by decide)) (by decide)
  · exact h.plain (by decide) (by intro h; exact absurd h (by decide)) (by decide)
  · refine h.plain (by decide) (fun _ => ?_) (by decide)
    unfold FM.part
    rw [number_no hd]
    simp [hb]
  · exact h.esc (by decide)
  · have h1 : Scans (47 :: 110 :: 111 :: 125 :: d :: r) := scans_end _
    have h2 := ((h1.plain (c := 58) (by decide) (by intro h; exact absurd h (by decide)) (by decide)).plain (c := 49) (by decide) (by intro h; exact absurd h (by decide)) (by decide)).plain (c := 123) (by decide) (by intro h; exact absurd h (by decide)) (by decide)
    refine h2.plain (c := 36) (by decide) (fun _ => ?_) (by decide)
    unfold FM.part; rw [n1]; simp [number_one, isD, inner, cased, casedL, names, nUp, nDown, nCap, nPascal, nCamel]
  · exact Scans.part (r := [49, 50]) (f := ⟨1, 12, 0, [], []⟩) (by show FM.part (49 :: 50 :: d :: r) = _; unfold FM.part; rw [number_two (by decide) (by decide) hd]; rfl) h
  · exact Scans.esc (h.plain (c := 49) (by decide) (by intro h; exact absurd h (by decide)) (by decide)) (by decide)
  · exact Scans.part (r := [123, 50, 58, 47, 99, 97, 109, 101, 108, 99, 97, 115, 101, 125]) (f := ⟨1, 2, 5, [], []⟩) (by show FM.part (123 :: 50 :: 58 :: 47 :: 99 :: 97 :: 109 :: 101 :: 108 :: 99 :: 97 :: 115 :: 101 :: 125 :: d :: r) = _; unfold FM.part; rw [n1]; simp [number_one, isD, inner, cased, casedL, names, nUp, nDown, nCap, nPascal, nCamel]) h
  · have h2 := ((h.plain (c := 51) (by decide) (by intro h; exact absurd h (by decide)) (by decide)).plain (c := 50) (by decide) (by intro h; exact absurd h (by decide)) (by decide)).plain (c := 49) (by decide) (by intro h; exact absurd h (by decide)) (by decide)
    refine h2.plain (c := 36) (by decide) (fun _ => ?_) (by decide)
    unfold FM.part; rw [number_three (by decide) (by decide) (by decide)]; simp
theorem pieces_scan (more : List Int) : ∀ ps : List (List Int), (∀ p ∈ ps, p ∈ pieces) → Scans (ps.flatten ++ 47 :: more) ∧ Starts (ps.flatten ++ 47 :: more)
  | [], _ => ⟨scans_end _, 47, more, rfl, by decide, by decide⟩
  | p :: ps, h => by
    have ih := pieces_scan more ps (fun q hq => h q (by simp [hq]))
    rw [List.flatten_cons, List.append_assoc]
    exact piece_scans (h p (by simp)) ih.2 ih.1
theorem pieces_sign : ∀ p ∈ pieces, p.all RX.isSign = true := by decide
end Go.Proofs.Ytfblkahjefdmaaa.FM

/- Plain law: what is printed is signs; how large what is scanned is. No program in sight. -/
namespace Go.Proofs.Ytfblkahjefdmaaa.FM

theorem guard_sign {m : List Int} : ∀ {s : List Int}, s.all RX.isSign = true → (guard m s).all RX.isSign = true
  | [], _ => rfl
  | c :: s, h => by
    simp only [List.all_cons, Bool.and_eq_true] at h
    rw [guard_cons, List.all_append, guard_sign h.2]
    split
    · simp [h.1]; decide
    · simp [h.1]
theorem dec_sign {g : Int} (h0 : 0 ≤ g) (h1 : g ≤ 99) : (dec g).all RX.isSign = true := by
  unfold dec
  split
  · simp [RX.isSign]; omega
  · simp [RX.isSign]; omega
theorem names_sign : ∀ k, (names.getD k []).all RX.isSign = true := by
  intro k
  rcases Nat.lt_or_ge k 5 with h | h
  · have : ∀ k, k < 5 → (names.getD k []).all RX.isSign = true := by decide
    exact this k h
  · rw [List.getD_eq_getElem?_getD, List.getElem?_eq_none (by simpa [names] using h)]; rfl
theorem put_sign {f : Form} (h : may1 f = true) : (put f).all RX.isSign = true := by
  obtain ⟨h1, h2, h3, h4, _⟩ := may1_of h
  have g1 := guard_sign (m := outer) h1
  have g2 := guard_sign (m := marks) h1
  have g3 := guard_sign (m := marks) h2
  have g4 := dec_sign h3 h4
  have g5 := names_sign (f.cas.toNat - 1)
  have c : RX.isSign 36 = true ∧ RX.isSign 123 = true ∧ RX.isSign 125 = true ∧ RX.isSign 58 = true ∧ RX.isSign 47 = true ∧ RX.isSign 43 = true ∧ RX.isSign 45 = true ∧ RX.isSign 63 = true := by decide
  obtain ⟨c1, c2, c3, c4, c5, c6, c7, c8⟩ := c
  unfold put body
  split
  · exact g1
  · simp only [List.all_cons, List.all_append, c1, c2, c3, g4, List.all_nil, Bool.true_and, Bool.and_true]
    split
    · split
      · rfl
      · simp only [List.all_cons, c4, c5, g5, Bool.true_and]
    split
    · simp only [List.all_cons, c4, c6, g2, Bool.true_and]
    split
    · simp only [List.all_cons, c4, c7, g3, Bool.true_and]
    split
    · simp only [List.all_cons, List.all_append, c4, c8, g2, g3, Bool.true_and]
    · rfl
theorem print_sign : ∀ {l : List Form} {p : Bool}, mayR p l = true → (print l).all RX.isSign = true
  | [], _, _ => rfl
  | f :: r, p, h => by
    unfold mayR at h
    simp only [Bool.and_eq_true] at h
    have e : print (f :: r) = put f ++ print r := rfl
    rw [e, List.all_append, put_sign h.1.1, print_sign h.2]; rfl

theorem text_tl (e : Int) : ∀ (n : Nat) (l : List Int) (t : List Int) (k : Nat), l.length ≤ n → text e l = some (t, k) → t.length ≤ k
  | _, [], t, k, _, h => by cases h
  | _, [c], t, k, _, h => by
    rw [text] at h
    split at h
    · injection h with h; injection h with h1 h2; subst h1 h2; simp
    · cases h
  | 0, _ :: _ :: _, _, _, hn, _ => by simp at hn
  | n + 1, c :: d :: r, t, k, hn, h => by
    rw [text] at h
    split at h
    · rw [Option.map_eq_some_iff] at h
      obtain ⟨⟨t', k'⟩, h1, h2⟩ := h
      injection h2 with h2 h3
      subst h2 h3
      have := text_tl e n r t' k' (by simp at hn; omega) h1
      simp; omega
    split at h
    · injection h with h; injection h with h1 h2; subst h1 h2; simp
    · rw [Option.map_eq_some_iff] at h
      obtain ⟨⟨t', k'⟩, h1, h2⟩ := h
      injection h2 with h2 h3
      subst h2 h3
      have := text_tl e n (d :: r) t' k' (by simp at hn ⊢; omega) h1
      simp; omega
theorem inner_tl {g : Int} {l : List Int} {f : Form} {k : Nat} (h : inner g l = some (f, k)) : f.text.length + f.els.length ≤ k := by
  unfold inner at h
  split at h
  · rw [Option.map_eq_some_iff] at h
    obtain ⟨⟨c, k'⟩, h2, h3⟩ := h
    injection h3 with h3 h4
    subst h3 h4; simp
  split at h
  · rw [Option.map_eq_some_iff] at h
    obtain ⟨⟨c, k'⟩, h2, h3⟩ := h
    injection h3 with h3 h4
    subst h3 h4
    have := text_tl _ _ _ _ _ (Nat.le_refl _) h2
    simp; omega
  split at h
  · split at h
    · cases h
    · rename_i p hp
      obtain ⟨t, k1⟩ := p
      rw [Option.map_eq_some_iff] at h
      obtain ⟨⟨c, k'⟩, h2, h3⟩ := h
      injection h3 with h3 h4
      subst h3 h4
      have h5 := text_tl _ _ _ _ _ (Nat.le_refl _) hp
      have h6 := text_tl _ _ _ _ _ (Nat.le_refl _) h2
      simp; omega
  split at h
  · rw [Option.map_eq_some_iff] at h
    obtain ⟨⟨c, k'⟩, h2, h3⟩ := h
    injection h3 with h3 h4
    subst h3 h4
    have := text_tl _ _ _ _ _ (Nat.le_refl _) h2
    simp; omega
  · rw [Option.map_eq_some_iff] at h
    obtain ⟨⟨c, k'⟩, h2, h3⟩ := h
    injection h3 with h3 h4
    subst h3 h4
    have := text_tl _ _ _ _ _ (Nat.le_refl _) h2
    simp; omega
theorem part_tl {l : List Int} {f : Form} {k : Nat} (h : part l = some (f, k)) : f.text.length + f.els.length ≤ k := by
  unfold part at h
  split at h
  · injection h with h
    injection h with h1 h2
    subst h1 h2; simp
  · split at h
    · split at h
      · cases h
      · split at h
        · injection h with h
          injection h with h1 h2
          subst h1 h2; simp
        · split at h
          · rw [Option.map_eq_some_iff] at h
            obtain ⟨⟨f', k2⟩, h2, h3⟩ := h
            injection h3 with h3 h4
            subst h3 h4
            have := inner_tl h2
            simp only; omega
          · cases h
    · cases h
/-- A bound on what is printed of parts. -/
def total (l : List Form) : Nat := (l.map fun f => 2 * f.text.length + 2 * f.els.length + (if f.kind = 0 then 0 else 17)).foldr (· + ·) 0
theorem total_append (a b : List Form) : total (a ++ b) = total a + total b := by
  unfold total
  rw [List.map_append, List.foldr_append]
  induction a.map (fun f => 2 * f.text.length + 2 * f.els.length + (if f.kind = 0 then 0 else 17)) with
  | nil => simp
  | cons x r ih => simp only [List.foldr_cons, ih]; omega
theorem endT_total (fs : List Form) (tx : List Int) : total (endT fs tx) ≤ total fs + 2 * tx.length := by
  unfold endT
  split
  · omega
  · rw [total_append]; simp [total]
theorem scan_total : ∀ (n : Nat) (l : List Int) (fs : List Form) (tx : List Int) (i : Nat) (r : List Form) (j : Nat), scan n l fs tx i = some (r, j) → l.all RX.isSign = true → total r ≤ total fs + 2 * tx.length + 10 * l.length
  | 0, _, _, _, _, _, _, h, _ => by cases h
  | _ + 1, [], _, _, _, _, _, h, _ => by cases h
  | n + 1, c :: l, fs, tx, i, r, j, h, ha => by
    simp only [List.all_cons, Bool.and_eq_true] at ha
    obtain ⟨hc, ha⟩ := ha
    have plain : scan n l fs (tx ++ [c]) (i + 1) = some (r, j) → total r ≤ total fs + 2 * tx.length + 10 * (c :: l).length := by
      intro h
      have := scan_total n l fs _ _ r j h ha
      rw [List.length_append] at this
      simp at this ⊢; omega
    rw [scan] at h
    split at h
    · injection h with h
      injection h with h1 h2
      have := endT_total fs tx
      rw [h1] at this; omega
    split at h
    · split at h
      · rename_i f k hp
        have h5 := part_tl hp
        have hk := part_ok hp ha
        have h6 := scan_total n _ _ _ _ r j h (all_drop ha _)
        have h7 := endT_total fs tx
        rw [total_append, List.length_drop] at h6
        have h8 : total [f] ≤ 2 * f.text.length + 2 * f.els.length + 17 := by simp [total]; split <;> omega
        simp only [List.length_nil, List.length_cons] at h6 ⊢
        omega
      · exact plain h
    · split at h
      · rename_i d hd
        obtain ⟨_, _, r', rfl⟩ := escN_some hd
        simp only [List.all_cons, Bool.and_eq_true] at ha
        have := scan_total n _ fs _ _ r j h ha.2
        rw [List.length_append] at this
        simp at this ⊢; omega
      · exact plain h
theorem scan_count : ∀ (n : Nat) (l : List Int) (fs : List Form) (tx : List Int) (i : Nat) (r : List Form) (j : Nat), scan n l fs tx i = some (r, j) → r.length ≤ fs.length + 2 * l.length + 1
  | 0, _, _, _, _, _, _, h => by cases h
  | _ + 1, [], _, _, _, _, _, h => by cases h
  | n + 1, c :: l, fs, tx, i, r, j, h => by
    have he : ∀ tx, (endT fs tx).length ≤ fs.length + 1 := by intro tx; unfold endT; split <;> simp
    rw [scan] at h
    split at h
    · injection h with h
      injection h with h1 h2
      have := he tx
      rw [h1] at this; simp; omega
    split at h
    · split at h
      · have h6 := scan_count n _ _ _ _ r j h
        have := he tx
        rw [List.length_append, List.length_drop] at h6
        simp at h6 ⊢; omega
      · have h6 := scan_count n _ _ _ _ r j h
        simp; omega
    · split at h
      · have h6 := scan_count n _ _ _ _ r j h
        rw [List.length_tail] at h6
        simp; omega
      · have h6 := scan_count n _ _ _ _ r j h
        simp; omega
theorem guard_twice (m : List Int) : ∀ s : List Int, (guard m s).length ≤ 2 * s.length
  | [] => by simp [guard]
  | c :: s => by
    have := guard_twice m s
    rw [guard_len]
    simp only [List.length_cons]
    split <;> omega
theorem names_ten : ∀ k, (names.getD k []).length ≤ 10 := by
  intro k
  rcases Nat.lt_or_ge k 5 with h | h
  · have : ∀ k, k < 5 → (names.getD k []).length ≤ 10 := by decide
    exact this k h
  · rw [List.getD_eq_getElem?_getD, List.getElem?_eq_none (by simpa [names] using h)]; simp
theorem put_total (f : Form) : (put f).length ≤ 2 * f.text.length + 2 * f.els.length + (if f.kind = 0 then 0 else 17) := by
  have h1 := guard_twice outer f.text
  have h2 := guard_twice marks f.text
  have h3 := guard_twice marks f.els
  have h4 := dec_len f.group
  have h5 := names_ten (f.cas.toNat - 1)
  unfold put body
  split
  · omega
  · simp only [List.length_cons, List.length_append, List.length_nil]
    split
    · split
      · simp; omega
      · simp only [List.length_cons]; omega
    split
    · simp only [List.length_cons]; omega
    split
    · simp only [List.length_cons]; omega
    split
    · simp only [List.length_cons, List.length_append]; omega
    · simp; omega
theorem print_total : ∀ l : List Form, (print l).length ≤ total l
  | [] => Nat.le_refl _
  | f :: r => by
    have ih := print_total r
    have h := put_total f
    have e : print (f :: r) = put f ++ print r := rfl
    have e2 : total (f :: r) = (2 * f.text.length + 2 * f.els.length + (if f.kind = 0 then 0 else 17)) + total r := rfl
    rw [e, List.length_append, e2]; omega
end Go.Proofs.Ytfblkahjefdmaaa.FM

/- Plain law: the formats that are made of a row of numbers. No program in sight. -/
namespace Go.Proofs.Ytfblkahjefdmaaa.TP

def fmtL (ts : List Int) : Nat → Nat → List Int → List Int × Nat
  | 0, i, out => (out, i)
  | n + 1, i, out => fmtL ts n (one ts i FM.pieces).2 (out ++ (one ts i FM.pieces).1)
/-- Format without the / that ends it; the place behind it. -/
def fmt (ts : List Int) (i : Nat) : List Int × Nat := fmtL ts (next ts i 4).1 (next ts i 4).2 []

theorem one_mem {ts : List Int} {i : Nat} : (one ts i FM.pieces).1 ∈ FM.pieces := by
  unfold one
  have h := next_lt ts i (n := FM.pieces.length) (by decide)
  show FM.pieces.getD _ [] ∈ _
  rw [List.getD_eq_getElem?_getD, List.getElem?_eq_getElem h]
  exact List.getElem_mem h
theorem fmtL_ok {ts : List Int} : ∀ (n i : Nat) (out : List Int), i ≤ ts.length → (∃ ps : List (List Int), (∀ p ∈ ps, p ∈ FM.pieces) ∧ (fmtL ts n i out).1 = out ++ ps.flatten) ∧ (fmtL ts n i out).2 ≤ ts.length ∧ (fmtL ts n i out).1.length ≤ out.length + n * 17
  | 0, i, out, h => ⟨⟨[], (fun p hp => absurd hp (by simp)), by simp [fmtL]⟩, h, by simp [fmtL]⟩
  | n + 1, i, out, h => by
    have h1 := one_le FM.pieces h
    have h2 := one_len (ts := ts) (i := i) (l := FM.pieces) (n := 17) (by decide)
    obtain ⟨⟨ps, h3, h4⟩, h5, h6⟩ := fmtL_ok n (one ts i FM.pieces).2 (out ++ (one ts i FM.pieces).1) h1
    unfold fmtL
    refine ⟨⟨(one ts i FM.pieces).1 :: ps, ?_, ?_⟩, h5, ?_⟩
    · intro p hp
      rcases List.mem_cons.1 hp with rfl | hp
      · exact one_mem
      · exact h3 p hp
    · rw [h4, List.append_assoc, List.flatten_cons]
    · rw [List.length_append] at h6; rw [Nat.succ_mul]; omega
theorem fmt_ok {ts : List Int} {i : Nat} (h : i ≤ ts.length) : (∃ ps : List (List Int), (∀ p ∈ ps, p ∈ FM.pieces) ∧ (fmt ts i).1 = ps.flatten) ∧ (fmt ts i).2 ≤ ts.length ∧ (fmt ts i).1.length ≤ 51 := by
  have hn := next_lt ts i (n := 4) (by decide)
  obtain ⟨⟨ps, h3, h4⟩, h5, h6⟩ := fmtL_ok (ts := ts) (next ts i 4).1 (next ts i 4).2 [] (next_le 4 h)
  refine ⟨⟨ps, h3, by unfold fmt; rw [h4]; rfl⟩, h5, ?_⟩
  have h7 : (next ts i 4).1 * 17 ≤ 3 * 17 := Nat.mul_le_mul_right _ (by omega)
  unfold fmt; simp only [List.length_nil] at h6; omega
/-- A made format: signs alone; with a / behind it, whatever follows, it is scanned. -/
theorem fmt_scan {ts : List Int} {i : Nat} (h : i ≤ ts.length) : ((fmt ts i).1).all RX.isSign = true ∧ ∀ more, ∃ l j, FM.scanAll ((fmt ts i).1 ++ 47 :: more) = some (l, j) := by
  obtain ⟨⟨ps, h3, h4⟩, _⟩ := fmt_ok h
  rw [h4]
  constructor
  · rw [List.all_eq_true]
    intro x hx
    obtain ⟨p, hp, hx⟩ := List.mem_flatten.1 hx
    exact List.all_eq_true.1 (FM.pieces_sign p (h3 p hp)) x hx
  · intro more
    have h8 := (FM.pieces_scan more ps h3).1 ((ps.flatten ++ 47 :: more).length + 1) [] [] 0 (Nat.lt_succ_self _)
    obtain ⟨⟨l, j⟩, h9⟩ := Option.isSome_iff_exists.1 h8
    exact ⟨l, j, h9⟩
end Go.Proofs.Ytfblkahjefdmaaa.TP
