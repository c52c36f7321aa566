/- Plain law: formats: how they are read, checked and printed, as functions on lists. No program in sight. -/
import Derived.Test.YtfblkahjefdmaaaDoorReP
namespace Go.Proofs.YtfblkahjefdmaaaDoor.FM

/-- A format's part. -/
structure Form where
  kind : Int
  group : Int
  cas : Int
  text : List Int
  els : List Int

def isD (c : Int) : Bool := decide (48 ≤ c) && decide (c ≤ 57)
def digs : List Int → Nat
  | [] => 0
  | c :: r => if isD c = true then digs r + 1 else 0
def val (l : List Int) : Int := l.foldl (fun n c => 10 * n + (c - 48)) 0
/-- A number: its value, its length. -/
def number (l : List Int) : Option (Int × Nat) := if digs l = 0 ∨ 2 < digs l then none else some (val (l.take (digs l)), digs l)

def marks : List Int := [92, 125, 58, 36, 47]
def outer : List Int := [92, 36, 125, 47]
/-- A text up to a sign; the length with that sign. -/
def text (e : Int) : List Int → Option (List Int × Nat)
  | [] => none
  | [c] => if c = e then some ([], 1) else none
  | c :: d :: r => if c = 92 ∧ d ∈ marks then (text e r).map (fun p => (d :: p.1, p.2 + 2)) else if c = e then some ([], 1) else (text e (d :: r)).map (fun p => (c :: p.1, p.2 + 1))

def nUp : List Int := [117, 112, 99, 97, 115, 101]
def nDown : List Int := [100, 111, 119, 110, 99, 97, 115, 101]
def nCap : List Int := [99, 97, 112, 105, 116, 97, 108, 105, 122, 101]
def nPascal : List Int := [112, 97, 115, 99, 97, 108, 99, 97, 115, 101]
def nCamel : List Int := [99, 97, 109, 101, 108, 99, 97, 115, 101]
def names : List (List Int) := [nUp, nDown, nCap, nPascal, nCamel]
def casedL : List (List Int) → Int → List Int → Option (Int × Nat)
  | [], _, _ => none
  | w :: ws, i, l => if l.take (w.length + 1) = w ++ [125] then some (i, w.length + 1) else casedL ws (i + 1) l
/-- A case's name and }. -/
def cased (l : List Int) : Option (Int × Nat) := casedL names 1 l

/-- What stands behind a number and :. -/
def inner (g : Int) (l : List Int) : Option (Form × Nat) :=
  if l.head? = some 47 then (cased l.tail).map fun p => (⟨1, g, p.1, [], []⟩, p.2 + 1)
  else if l.head? = some 43 then (text 125 l.tail).map fun p => (⟨2, g, 0, p.1, []⟩, p.2 + 1)
  else if l.head? = some 63 then
    match text 58 l.tail with
    | none => none
    | some p => (text 125 (l.tail.drop p.2)).map fun q => (⟨4, g, 0, p.1, q.1⟩, p.2 + q.2 + 1)
  else if l.head? = some 45 then (text 125 l.tail).map fun p => (⟨3, g, 0, [], p.1⟩, p.2 + 1)
  else (text 125 l).map fun p => (⟨3, g, 0, [], p.1⟩, p.2)
/-- A part, behind its $. -/
def part (l : List Int) : Option (Form × Nat) :=
  match number l with
  | some (n, k) => some (⟨1, n, 0, [], []⟩, k)
  | none =>
    if l.head? = some 123 then
      match number l.tail with
      | none => none
      | some (n, k) =>
        if (l.tail.drop k).head? = some 125 then some (⟨1, n, 0, [], []⟩, k + 2)
        else if (l.tail.drop k).head? = some 58 then (inner n (l.tail.drop k).tail).map fun p => (p.1, p.2 + k + 2)
        else none
    else none
def endT (fs : List Form) (tx : List Int) : List Form := if tx = [] then fs else fs ++ [⟨0, 0, 0, tx, []⟩]
/-- The sign behind a backslash, where it is one that has one. -/
def escN (c : Int) (r : List Int) : Option Int := if c = 92 then r.head?.bind fun d => if d ∈ outer then some d else none else none
/-- A format: its parts, the place of the / behind it. -/
def scan : Nat → List Int → List Form → List Int → Nat → Option (List Form × Nat)
  | 0, _, _, _, _ => none
  | _ + 1, [], _, _, _ => none
  | n + 1, c :: r, fs, tx, i =>
    if c = 47 then some (endT fs tx, i)
    else if c = 36 then
      match part r with
      | some (f, k) => scan n (r.drop k) (endT fs tx ++ [f]) [] (i + 1 + k)
      | none => scan n r fs (tx ++ [c]) (i + 1)
    else match escN c r with
      | some d => scan n r.tail fs (tx ++ [d]) (i + 2)
      | none => scan n r fs (tx ++ [c]) (i + 1)

def may1 (f : Form) : Bool :=
  f.text.all RX.isSign && f.els.all RX.isSign && decide (0 ≤ f.group) && decide (f.group ≤ 99) && decide (0 ≤ f.cas) && decide (f.cas ≤ 5) &&
  (if f.kind = 0 then !f.text.isEmpty && f.els.isEmpty && decide (f.group = 0) && decide (f.cas = 0)
   else if f.kind = 1 then f.text.isEmpty && f.els.isEmpty
   else if f.kind = 2 then f.els.isEmpty && decide (f.cas = 0)
   else if f.kind = 3 then f.text.isEmpty && decide (f.cas = 0)
   else if f.kind = 4 then decide (f.cas = 0)
   else false)
def mayR : Bool → List Form → Bool
  | _, [] => true
  | p, f :: r => may1 f && !(p && f.kind == 0) && mayR (f.kind == 0) r
def may (l : List Form) : Bool := mayR false l
def last0 : Bool → List Form → Bool
  | p, [] => p
  | _, f :: r => last0 (f.kind == 0) r

def guard (m s : List Int) : List Int := (s.map fun c => if c ∈ m then [92, c] else [c]).flatten
def dec (g : Int) : List Int := if g < 10 then [48 + g] else [48 + g / 10, 48 + g % 10]
def body (f : Form) : List Int :=
  if f.kind = 1 then (if f.cas = 0 then [] else 58 :: 47 :: names.getD (f.cas.toNat - 1) [])
  else if f.kind = 2 then 58 :: 43 :: guard marks f.text
  else if f.kind = 3 then 58 :: 45 :: guard marks f.els
  else if f.kind = 4 then 58 :: 63 :: (guard marks f.text ++ 58 :: guard marks f.els)
  else []
def put (f : Form) : List Int := if f.kind = 0 then guard outer f.text else 36 :: 123 :: (dec f.group ++ (body f ++ [125]))
def print (l : List Form) : List Int := (l.map put).flatten

theorem mayR_append : ∀ (a : List Form) (p : Bool) (b : List Form), mayR p (a ++ b) = (mayR p a && mayR (last0 p a) b)
  | [], p, b => rfl
  | f :: r, p, b => by simp only [List.cons_append, mayR, last0, mayR_append r]; simp only [Bool.and_assoc]
theorem last0_append : ∀ (a : List Form) (p : Bool) (f : Form), last0 p (a ++ [f]) = (f.kind == 0)
  | [], _, _ => rfl
  | _ :: r, _, f => last0_append r _ f

theorem guard_cons (m : List Int) (c : Int) (s : List Int) : guard m (c :: s) = (if c ∈ m then [92, c] else [c]) ++ guard m s := rfl
theorem guard_nil (m : List Int) : guard m [] = [] := rfl

theorem text_esc {e d : Int} {r : List Int} (h : d ∈ marks) : text e (92 :: d :: r) = (text e r).map (fun p => (d :: p.1, p.2 + 2)) := by
  rw [text, if_pos ⟨rfl, h⟩]
theorem text_stop {e : Int} {r : List Int} (he : e ≠ 92) : text e (e :: r) = some ([], 1) := by
  cases r with
  | nil => rw [text, if_pos rfl]
  | cons d r => rw [text, if_neg (fun h => he h.1), if_pos rfl]
theorem text_plain {e c : Int} {r : List Int} (hc : c ≠ e) (h : ¬ (c = 92 ∧ ∃ d r', r = d :: r' ∧ d ∈ marks)) : text e (c :: r) = (text e r).map (fun p => (c :: p.1, p.2 + 1)) := by
  cases r with
  | nil => show text e [c] = none; rw [text, if_neg hc]
  | cons d r => rw [text, if_neg (fun k => h ⟨k.1, d, r, rfl, k.2⟩), if_neg hc]
theorem guard_len (m : List Int) (c : Int) (s : List Int) : (guard m (c :: s)).length = (if c ∈ m then 2 else 1) + (guard m s).length := by
  rw [guard_cons, List.length_append]; split <;> rfl
/-- What is printed of a text is read again. -/
theorem text_guard {e : Int} (he : e ∈ marks) (he2 : e ≠ 92) (rest : List Int) : ∀ t : List Int, text e (guard marks t ++ e :: rest) = some (t, (guard marks t).length + 1)
  | [] => text_stop he2
  | c :: t => by
    have ih := text_guard he he2 rest t
    rw [guard_len, guard_cons]
    by_cases h : c ∈ marks
    · rw [if_pos h, if_pos h]
      show text e (92 :: c :: (guard marks t ++ e :: rest)) = _
      rw [text_esc h, ih]
      simp only [Option.map_some, Option.some.injEq, Prod.mk.injEq, true_and]; omega
    · rw [if_neg h, if_neg h]
      show text e (c :: (guard marks t ++ e :: rest)) = _
      rw [text_plain (fun k => h (by rw [k]; exact he)) (fun k => h (by rw [k.1]; decide)), ih]
      simp only [Option.map_some, Option.some.injEq, Prod.mk.injEq, true_and]; omega

theorem digs_le : ∀ l : List Int, digs l ≤ l.length
  | [] => Nat.le_refl _
  | c :: r => by
    have := digs_le r
    unfold digs; split <;> simp <;> omega
theorem dec_read {g : Int} (h0 : 0 ≤ g) (h1 : g ≤ 99) (x : Int) (hx : isD x = false) (r : List Int) : number (dec g ++ x :: r) = some (g, (dec g).length) := by
  have hs : ∀ c : Int, 48 ≤ c → c ≤ 57 → isD c = true := by intro c a b; simp [isD, a, b]
  unfold dec
  split
  · rename_i h
    have h2 : isD (48 + g) = true := hs _ (by omega) (by omega)
    have hd : digs ((48 + g) :: x :: r) = 1 := by simp [digs, h2, hx]
    show number ((48 + g) :: x :: r) = _
    unfold number
    rw [hd]
    simp [val]
    omega
  · rename_i h
    have h2 : isD (48 + g / 10) = true := hs _ (by omega) (by omega)
    have h3 : isD (48 + g % 10) = true := hs _ (by omega) (by omega)
    have hd : digs ((48 + g / 10) :: (48 + g % 10) :: x :: r) = 2 := by simp [digs, h2, h3, hx]
    show number ((48 + g / 10) :: (48 + g % 10) :: x :: r) = _
    unfold number
    rw [hd]
    simp [val]
    omega
theorem number_no {x : Int} (hx : isD x = false) (r : List Int) : number (x :: r) = none := by simp [number, digs, hx]
theorem dec_len (g : Int) : 1 ≤ (dec g).length ∧ (dec g).length ≤ 2 := by unfold dec; split <;> simp

theorem cased_read {c : Int} (h0 : 1 ≤ c) (h1 : c ≤ 5) (r : List Int) : cased (names.getD (c.toNat - 1) [] ++ 125 :: r) = some (c, (names.getD (c.toNat - 1) []).length + 1) := by
  have : c = 1 ∨ c = 2 ∨ c = 3 ∨ c = 4 ∨ c = 5 := by omega
  rcases this with rfl | rfl | rfl | rfl | rfl <;> simp [cased, casedL, names, nUp, nDown, nCap, nPascal, nCamel]

theorem may1_of {f : Form} (h : may1 f = true) : f.text.all RX.isSign = true ∧ f.els.all RX.isSign = true ∧ 0 ≤ f.group ∧ f.group ≤ 99 ∧ 0 ≤ f.cas ∧ f.cas ≤ 5 ∧
    ((f.kind = 0 ∧ f.text ≠ [] ∧ f.els = [] ∧ f.group = 0 ∧ f.cas = 0) ∨ (f.kind = 1 ∧ f.text = [] ∧ f.els = []) ∨ (f.kind = 2 ∧ f.els = [] ∧ f.cas = 0) ∨ (f.kind = 3 ∧ f.text = [] ∧ f.cas = 0) ∨ (f.kind = 4 ∧ f.cas = 0)) := by
  unfold may1 at h
  rw [Bool.and_eq_true] at h
  obtain ⟨h, hk⟩ := h
  simp only [Bool.and_eq_true, decide_eq_true_eq] at h
  obtain ⟨⟨⟨⟨⟨h1, h2⟩, h3⟩, h4⟩, h5⟩, h6⟩ := h
  refine ⟨h1, h2, h3, h4, h5, h6, ?_⟩
  split at hk
  · simp at hk; simp_all
  split at hk
  · simp at hk; simp_all
  split at hk
  · simp at hk; simp_all
  split at hk
  · simp at hk; simp_all
  split at hk
  · simp at hk; simp_all
  · cases hk
theorem form_eta (f : Form) {k g c : Int} {t e : List Int} (h1 : f.kind = k) (h2 : f.group = g) (h3 : f.cas = c) (h4 : f.text = t) (h5 : f.els = e) : f = ⟨k, g, c, t, e⟩ := by
  subst h1 h2 h3 h4 h5; rfl
/-- What is printed of a part is read again. -/
theorem part_put {f : Form} (h : may1 f = true) (hk : f.kind ≠ 0) (rest : List Int) : ∃ r, put f = 36 :: r ∧ part (r ++ rest) = some (f, r.length) := by
  obtain ⟨h1, h2, h3, h4, h5, h6, hh⟩ := may1_of h
  refine ⟨123 :: (dec f.group ++ (body f ++ [125])), by unfold put; rw [if_neg hk], ?_⟩
  have hno : ∀ r, number (123 :: r) = none := number_no (by decide)
  show part (123 :: (dec f.group ++ (body f ++ [125]) ++ rest)) = _
  unfold part
  rw [hno]
  simp only [List.head?_cons, if_true, List.tail_cons]
  rcases hh with ⟨hk0, _⟩ | ⟨hk1, ht, he⟩ | ⟨hk1, he, hc⟩ | ⟨hk1, ht, hc⟩ | ⟨hk1, hc⟩
  · exact absurd hk0 hk
  · by_cases hc : f.cas = 0
    · have hb : body f = [] := by unfold body; rw [if_pos hk1, if_pos hc]
      rw [hb]
      simp only [List.nil_append, List.append_assoc, List.cons_append]
      rw [dec_read h3 h4 125 (by decide)]
      simp only [List.drop_left, List.head?_cons, if_true, List.length_cons, List.length_append, List.length_nil]
      rw [← form_eta f hk1 rfl hc ht he]
    · have hb : body f = 58 :: 47 :: names.getD (f.cas.toNat - 1) [] := by unfold body; rw [if_pos hk1, if_neg hc]
      rw [hb]
      simp only [List.append_assoc, List.cons_append, List.nil_append]
      rw [dec_read h3 h4 58 (by decide)]
      simp only [List.drop_left, List.head?_cons, Option.some.injEq, (by decide : ¬ (58 : Int) = 125), if_false, if_true, List.tail_cons]
      unfold inner
      simp only [List.head?_cons, if_true, List.tail_cons]
      rw [cased_read (by omega) h6]
      simp only [Option.map_some, Option.some.injEq, Prod.mk.injEq, List.length_cons, List.length_append, List.length_nil]
      exact ⟨(form_eta f hk1 rfl rfl ht he).symm, by omega⟩
  · have hb : body f = 58 :: 43 :: guard marks f.text := by unfold body; rw [if_neg (by omega), if_pos hk1]
    rw [hb]
    simp only [List.append_assoc, List.cons_append, List.nil_append]
    rw [dec_read h3 h4 58 (by decide)]
    simp only [List.drop_left, List.head?_cons, Option.some.injEq, (by decide : ¬ (58 : Int) = 125), if_false, if_true, List.tail_cons]
    unfold inner
    simp only [List.head?_cons, Option.some.injEq, (by decide : ¬ (43 : Int) = 47), if_false, if_true, List.tail_cons]
    rw [text_guard (by decide) (by decide)]
    simp only [Option.map_some, Option.some.injEq, Prod.mk.injEq, List.length_cons, List.length_append, List.length_nil]
    exact ⟨(form_eta f hk1 rfl hc rfl he).symm, by omega⟩
  · have hb : body f = 58 :: 45 :: guard marks f.els := by unfold body; rw [if_neg (by omega), if_neg (by omega), if_pos hk1]
    rw [hb]
    simp only [List.append_assoc, List.cons_append, List.nil_append]
    rw [dec_read h3 h4 58 (by decide)]
    simp only [List.drop_left, List.head?_cons, Option.some.injEq, (by decide : ¬ (58 : Int) = 125), if_false, if_true, List.tail_cons]
    unfold inner
    simp only [List.head?_cons, Option.some.injEq, (by decide : ¬ (45 : Int) = 47), (by decide : ¬ (45 : Int) = 43), (by decide : ¬ (45 : Int) = 63), if_false, if_true, List.tail_cons]
    rw [text_guard (by decide) (by decide)]
    simp only [Option.map_some, Option.some.injEq, Prod.mk.injEq, List.length_cons, List.length_append, List.length_nil]
    exact ⟨(form_eta f hk1 rfl hc ht rfl).symm, by omega⟩
  · have hb : body f = 58 :: 63 :: (guard marks f.text ++ 58 :: guard marks f.els) := by unfold body; rw [if_neg (by omega), if_neg (by omega), if_neg (by omega), if_pos hk1]
    rw [hb]
    simp only [List.append_assoc, List.cons_append, List.nil_append]
    rw [dec_read h3 h4 58 (by decide)]
    simp only [List.drop_left, List.head?_cons, Option.some.injEq, (by decide : ¬ (58 : Int) = 125), if_false, if_true, List.tail_cons]
    unfold inner
    simp only [List.head?_cons, Option.some.injEq, (by decide : ¬ (63 : Int) = 47), (by decide : ¬ (63 : Int) = 43), if_false, if_true, List.tail_cons]
    rw [text_guard (by decide) (by decide)]
    simp only
    rw [show (guard marks f.text).length + 1 = (guard marks f.text ++ [58]).length by simp, show guard marks f.text ++ 58 :: (guard marks f.els ++ 125 :: rest) = (guard marks f.text ++ [58]) ++ (guard marks f.els ++ 125 :: rest) by simp, List.drop_left]
    rw [text_guard (by decide) (by decide)]
    simp only [Option.map_some, Option.some.injEq, Prod.mk.injEq, List.length_cons, List.length_append, List.length_nil]
    exact ⟨(form_eta f hk1 rfl hc rfl rfl).symm, by omega⟩

theorem scan_part {n : Nat} {r : List Int} {f : Form} {k i : Nat} {fs : List Form} {tx : List Int} (h : part r = some (f, k)) : scan (n + 1) (36 :: r) fs tx i = scan n (r.drop k) (endT fs tx ++ [f]) [] (i + 1 + k) := by
  rw [scan, if_neg (by decide), if_pos rfl, h]
theorem scan_esc {n : Nat} {d : Int} {r : List Int} {i : Nat} {fs : List Form} {tx : List Int} (h : d ∈ outer) : scan (n + 1) (92 :: d :: r) fs tx i = scan n r fs (tx ++ [d]) (i + 2) := by
  have e : escN 92 (d :: r) = some d := by simp [escN, h]
  rw [scan, if_neg (by decide), if_neg (by decide), e]; rfl
theorem escN_none {c : Int} {r : List Int} (h3 : ¬ (c = 92 ∧ ∃ d r', r = d :: r' ∧ d ∈ outer)) : escN c r = none := by
  unfold escN
  split
  · rename_i hc
    cases r with
    | nil => rfl
    | cons d r =>
      show (if d ∈ outer then some d else none) = none
      rw [if_neg (fun k => h3 ⟨hc, d, r, rfl, k⟩)]
  · rfl
theorem escN_some {c d : Int} {r : List Int} (h : escN c r = some d) : c = 92 ∧ d ∈ outer ∧ ∃ r', r = d :: r' := by
  unfold escN at h
  split at h
  · rename_i hc
    cases r with
    | nil => cases h
    | cons e r =>
      have h : (if e ∈ outer then some e else none) = some d := h
      split at h
      · injection h with h; subst h; exact ⟨hc, ‹_›, r, rfl⟩
      · cases h
  · cases h
theorem scan_plain {n : Nat} {c : Int} {r : List Int} {i : Nat} {fs : List Form} {tx : List Int} (h1 : c ≠ 47) (h2 : c = 36 → part r = none) (h3 : ¬ (c = 92 ∧ ∃ d r', r = d :: r' ∧ d ∈ outer)) : scan (n + 1) (c :: r) fs tx i = scan n r fs (tx ++ [c]) (i + 1) := by
  rw [scan, if_neg h1]
  by_cases hc : c = 36
  · rw [if_pos hc, h2 hc]
  · rw [if_neg hc, escN_none h3]
/-- Fuel enough is fuel enough. -/
theorem scan_fuel : ∀ (n m : Nat) (l : List Int) (fs : List Form) (tx : List Int) (i : Nat), l.length < n → l.length < m → scan n l fs tx i = scan m l fs tx i
  | 0, _, _, _, _, _, h, _ => by omega
  | _ + 1, 0, _, _, _, _, _, h => by omega
  | n + 1, m + 1, [], fs, tx, i, _, _ => rfl
  | n + 1, m + 1, c :: r, fs, tx, i, h1, h2 => by
    have hn : r.length < n := by simpa using h1
    have hm : r.length < m := by simpa using h2
    unfold scan
    split
    · rfl
    split
    · split
      · rename_i f k _
        exact scan_fuel n m _ _ _ _ (by rw [List.length_drop]; omega) (by rw [List.length_drop]; omega)
      · exact scan_fuel n m _ _ _ _ hn hm
    · split
      · exact scan_fuel n m _ _ _ _ (by rw [List.length_tail]; omega) (by rw [List.length_tail]; omega)
      · exact scan_fuel n m _ _ _ _ hn hm

theorem scan_guard (rest : List Int) (fs : List Form) : ∀ (t : List Int) (n : Nat) (tx : List Int) (i : Nat), (guard outer t ++ rest).length < n → rest ≠ [] →
    ∃ m, rest.length < m ∧ scan n (guard outer t ++ rest) fs tx i = scan m rest fs (tx ++ t) (i + (guard outer t).length)
  | [], n, tx, i, hn, _ => ⟨n, hn, by simp [guard_nil]⟩
  | c :: t, n + 1, tx, i, hn, hr => by
    rw [guard_len]
    by_cases h : c ∈ outer
    · have e : guard outer (c :: t) ++ rest = 92 :: c :: (guard outer t ++ rest) := by rw [guard_cons, if_pos h]; rfl
      rw [e] at hn ⊢
      obtain ⟨m, hm, ih⟩ := scan_guard rest fs t n (tx ++ [c]) (i + 2) (by simp at hn ⊢; omega) hr
      refine ⟨m, hm, ?_⟩
      rw [scan_esc h, ih, if_pos h, List.append_assoc, Nat.add_assoc]; rfl
    · have e : guard outer (c :: t) ++ rest = c :: (guard outer t ++ rest) := by rw [guard_cons, if_neg h]; rfl
      rw [e] at hn ⊢
      obtain ⟨m, hm, ih⟩ := scan_guard rest fs t n (tx ++ [c]) (i + 1) (by simp at hn ⊢; omega) hr
      refine ⟨m, hm, ?_⟩
      rw [scan_plain (fun k => h (by rw [k]; decide)) (fun k => absurd (by rw [k]; decide) h) (fun k => h (by rw [k.1]; decide)), ih, if_neg h, List.append_assoc, Nat.add_assoc]; rfl

theorem endT_nil (fs : List Form) : endT fs [] = fs := by unfold endT; rw [if_pos rfl]
theorem scan_print_aux (more : List Int) : ∀ (l : List Form) (n : Nat) (fs : List Form) (tx : List Int) (i : Nat), mayR (decide (tx ≠ [])) l = true → (print l ++ 47 :: more).length < n →
    scan n (print l ++ 47 :: more) fs tx i = some (endT fs tx ++ l, i + (print l).length)
  | [], n + 1, fs, tx, i, _, _ => by
    show scan (n + 1) (47 :: more) fs tx i = _
    rw [scan, if_pos rfl, List.append_nil]; rfl
  | f :: l, n + 1, fs, tx, i, hm, hn => by
    unfold mayR at hm
    simp only [Bool.and_eq_true] at hm
    obtain ⟨⟨h1, h2⟩, h3⟩ := hm
    have e : print (f :: l) = put f ++ print l := rfl
    rw [e] at hn ⊢
    rw [List.append_assoc] at hn ⊢
    by_cases hk : f.kind = 0
    · have htx : tx = [] := by
        rcases hd : decide (tx ≠ []) with _ | _
        · simpa using hd
        · rw [hd, hk] at h2; simp at h2
      subst htx
      obtain ⟨_, _, _, _, _, _, hh⟩ := may1_of h1
      obtain ⟨_, ht, he, hg, hc⟩ : f.kind = 0 ∧ f.text ≠ [] ∧ f.els = [] ∧ f.group = 0 ∧ f.cas = 0 := by
        rcases hh with h | h | h | h | h
        · exact h
        all_goals (exfalso; have := h.1; omega)
      have hp : put f = guard outer f.text := by unfold put; rw [if_pos hk]
      rw [hp] at hn ⊢
      obtain ⟨m, hm, ih⟩ := scan_guard (print l ++ 47 :: more) fs f.text (n + 1) [] i hn (by simp)
      rw [ih, List.nil_append]
      have h4 : (f.kind == 0) = decide (f.text ≠ []) := by rw [hk]; simp [ht]
      rw [h4] at h3
      rw [scan_print_aux more l m fs f.text _ h3 hm]
      have : endT fs f.text = fs ++ [f] := by unfold endT; rw [if_neg ht, form_eta f hk hg hc rfl he]
      rw [this, endT_nil, List.append_assoc, List.length_append, Nat.add_assoc]; rfl
    · obtain ⟨r, hr, hpr⟩ := part_put h1 hk (print l ++ 47 :: more)
      rw [hr] at hn ⊢
      have h4 : (f.kind == 0) = decide (([] : List Int) ≠ []) := by simp [hk]
      rw [h4] at h3
      rw [List.cons_append, scan_part hpr, List.drop_left]
      rw [scan_print_aux more l n _ [] _ h3 (by simp at hn ⊢; omega)]
      rw [endT_nil, List.append_assoc, List.length_append, List.length_cons]
      congr 2
      omega
def scanAll (s : List Int) : Option (List Form × Nat) := scan (s.length + 1) s [] [] 0
/-- What is printed is read again. -/
theorem scan_print {l : List Form} (h : may l = true) (more : List Int) : scanAll (print l ++ 47 :: more) = some (l, (print l).length) := by
  unfold scanAll
  rw [scan_print_aux more l _ [] [] 0 h (Nat.lt_succ_self _)]
  simp [endT_nil]
end Go.Proofs.YtfblkahjefdmaaaDoor.FM
