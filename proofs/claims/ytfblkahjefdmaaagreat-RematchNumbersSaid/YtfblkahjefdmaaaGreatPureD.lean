/- Plain law: the document's own programs of regular texts are those of package reprog. No program in sight. -/
import Derived.Test.YtfblkahjefdmaaaGreatPureA
namespace Go.Proofs.YtfblkahjefdmaaaGreat.PG
open RX (ReN WF WFs Top under lift)

/-- Codes one behind the other, moved. -/
def fl : Nat → List (List Inst) → List Inst
  | _, [] => []
  | k, c :: cs => c.map (moved k) ++ fl (k + c.length) cs
def lens (cs : List (List Inst)) : Nat := (cs.map List.length).foldr (· + ·) 0
def iSp (far : Int) (lz : Bool) : List Inst := [if lz then ⟨4, far, 1, false, []⟩ else ⟨4, 1, far, false, []⟩]
def iJ (far : Int) : List Inst := [⟨5, far, 0, false, []⟩]
def iS (x : Int) : List Inst := [⟨3, x, 0, false, []⟩]
def iEither : List (List Inst) → List Inst
  | [] => []
  | [c] => c
  | c :: d :: cs => fl 0 [iSp (c.length + 2) false, c, iJ ((iEither (d :: cs)).length + 1), iEither (d :: cs)]
def iMaybe (c : List Inst) (lz : Bool) : Nat → List Inst
  | 0 => []
  | n + 1 => fl 0 [iSp (1 + c.length + (iMaybe c lz n).length) lz, c, iMaybe c lz n]
def iLoop (c : List Inst) (lz : Bool) : List Inst := fl 0 [iSp (c.length + 2) lz, c, iJ (-(c.length : Int) - 1)]
def iMany (c : List Inst) (n : Nat) : List Inst := fl 0 (List.replicate n c)
/-- The instructions of a node over those of what is in it, however many. -/
def iNode (x : ReN) (cs : List (List Inst)) : List Inst :=
  if x.kind = 0 then fl 0 cs
  else if x.kind = 1 then iEither cs
  else if x.kind = 2 then [⟨0, 0, 0, x.neg, x.set⟩]
  else if x.kind = 3 then [⟨1, 0, 0, false, []⟩]
  else if x.kind = 4 then [⟨2, 0, 0, false, []⟩]
  else if x.kind = 5 then (if 0 < x.lo then fl 0 [iS (2 * x.lo), cs.headD [], iS (2 * x.lo + 1)] else cs.headD [])
  else if x.hi < 0 then fl 0 [iMany (cs.headD []) x.lo.toNat, iLoop (cs.headD []) x.lazy]
  else fl 0 [iMany (cs.headD []) x.lo.toNat, iMaybe (cs.headD []) x.lazy (x.hi - x.lo).toNat]
def iTree : Nat → List ReN → List Inst
  | 0, _ => []
  | _ + 1, [] => []
  | n + 1, x :: r => iNode x ((kids r.length r).map (iTree n))

/-- A part is this code, or too long. -/
def Rel (p : Part) (c : List Inst) : Prop := Fine p ∧ p.n = min 301 c.length ∧ (c.length < 301 → p.l = c)
theorem fl_len : ∀ (cs : List (List Inst)) (k : Nat), (fl k cs).length = lens cs
  | [], _ => rfl
  | c :: cs, k => by
    rw [fl, List.length_append, List.length_map, fl_len cs]; rfl
inductive Rels : List Part → List (List Inst) → Prop
  | nil : Rels [] []
  | cons {p : Part} {c : List Inst} {ps : List Part} {cs : List (List Inst)} : Rel p c → Rels ps cs → Rels (p :: ps) (c :: cs)
theorem rels_fine {ps : List Part} {cs : List (List Inst)} (h : Rels ps cs) : ∀ p ∈ ps, Fine p := by
  induction h with
  | nil => intro p hp; cases hp
  | cons h _ ih =>
    intro p hp
    rcases List.mem_cons.1 hp with rfl | hp
    · exact h.1
    · exact ih p hp
theorem rels_total {ps : List Part} {cs : List (List Inst)} (h : Rels ps cs) : min 301 (total ps) = min 301 (lens cs) := by
  induction h with
  | nil => rfl
  | cons h _ ih =>
    rename_i p c ps cs _
    have h1 : total (p :: ps) = p.n + total ps := rfl
    have h2 : lens (c :: cs) = c.length + lens cs := rfl
    have := h.2.1
    omega
theorem rels_flat {ps : List Part} {cs : List (List Inst)} (h : Rels ps cs) : lens cs < 301 → ∀ k, flat k ps = fl k cs := by
  induction h with
  | nil => intro _ k; rfl
  | cons h _ ih =>
    rename_i p c ps cs _
    intro hl k
    have h2 : lens (c :: cs) = c.length + lens cs := rfl
    have h3 := h.2.2 (by omega)
    have h4 := h.2.1
    rw [flat, fl, h3, ih (by omega), show p.n = c.length by omega]
theorem rel_row {ps : List Part} {cs : List (List Inst)} (h : Rels ps cs) : Rel (row ps) (fl 0 cs) := by
  have hf := rels_fine h
  have ht := rels_total h
  have he := row_eq hf
  refine ⟨row_fine hf, ?_, fun hl => ?_⟩
  · rw [fl_len]
    by_cases hc : total ps < 301
    · rw [(he.1 hc).1]
      show total ps = _
      omega
    · rw [he.2 (by omega)]
      show 301 = _
      omega
  · rw [fl_len] at hl
    rw [(he.1 (by omega)).1]
    exact rels_flat h hl 0
theorem rel_one {l : List Inst} (h : l.length < 301) : Rel (one l) l := ⟨one_fine h, by show l.length = _; omega, fun _ => rfl⟩
theorem rel_split (far : Int) (lz : Bool) : Rel (split far lz) (iSp far lz) := rel_one (by simp)
theorem rel_jump (far : Int) : Rel (jump far) (iJ far) := rel_one (by simp)
theorem rel_save (x : Int) : Rel (save x) (iS x) := rel_one (by simp)
theorem rel_nil : Rel ⟨[], 0⟩ [] := ⟨.inl ⟨by decide, rfl⟩, rfl, fun _ => rfl⟩
theorem rels2 {p q : Part} {c d : List Inst} (h1 : Rel p c) (h2 : Rel q d) : Rels [p, q] [c, d] := .cons h1 (.cons h2 .nil)
theorem rels3 {p q r : Part} {c d e : List Inst} (h1 : Rel p c) (h2 : Rel q d) (h3 : Rel r e) : Rels [p, q, r] [c, d, e] := .cons h1 (rels2 h2 h3)
theorem rels4 {p q r s : Part} {c d e f : List Inst} (h1 : Rel p c) (h2 : Rel q d) (h3 : Rel r e) (h4 : Rel s f) : Rels [p, q, r, s] [c, d, e, f] := .cons h1 (rels3 h2 h3 h4)
theorem rel_long {p : Part} {c : List Inst} (hf : p = ⟨[], 301⟩) (hc : 301 ≤ c.length) : Rel p c := by
  subst hf
  exact ⟨.inr ⟨rfl, rfl⟩, by show 301 = _; omega, fun h => by omega⟩
/-- The same row, where both are too long. -/
theorem rel_swap {ps : List Part} {cs ds : List (List Inst)} (h : Rels ps cs) (hl : 301 ≤ lens cs) (hd : 301 ≤ lens ds) : Rel (row ps) (fl 0 ds) := by
  have ht := rels_total h
  exact rel_long ((row_eq (rels_fine h)).2 (by omega)) (by rw [fl_len]; exact hd)
theorem lens4 (a b c d : List Inst) : lens [a, b, c, d] = a.length + (b.length + (c.length + (d.length + 0))) := rfl
theorem lens3 (a b c : List Inst) : lens [a, b, c] = a.length + (b.length + (c.length + 0)) := rfl
theorem rel_either {ps : List Part} {cs : List (List Inst)} (h : Rels ps cs) : Rel (either ps) (iEither cs) := by
  induction h with
  | nil => exact rel_nil
  | cons h hs ih =>
    rename_i p c ps cs
    cases hs with
    | nil => exact h
    | cons h1 hs1 =>
      rename_i q d ps cs
      rw [either, iEither]
      generalize either (q :: ps) = o at ih ⊢
      generalize iEither (d :: cs) = u at ih ⊢
      have hp := h.2.1
      have ho := ih.2.1
      have hr := rels4 (rel_split (p.n + 2) false) h (rel_jump (o.n + 1)) ih
      by_cases hc : c.length < 301 ∧ u.length < 301
      · rw [show p.n = c.length by omega, show o.n = u.length by omega] at hr ⊢
        exact rel_row hr
      · refine rel_swap hr ?_ ?_
        · rw [lens4]; simp [iSp, iJ]; omega
        · rw [lens4]; simp [iSp, iJ]; omega
theorem rels_rep {p : Part} {c : List Inst} (h : Rel p c) : ∀ n, Rels (List.replicate n p) (List.replicate n c)
  | 0 => .nil
  | n + 1 => .cons h (rels_rep h n)
theorem fl_nils : ∀ (n k : Nat), fl k (List.replicate n []) = []
  | 0, _ => rfl
  | n + 1, k => by rw [List.replicate_succ, fl, fl_nils n]; rfl
theorem rel_many {p : Part} {c : List Inst} (h : Rel p c) (n : Nat) : Rel (many p n) (iMany c n) := by
  unfold many iMany
  split
  · have h1 := h.2.1
    have h2 : c = [] := List.eq_nil_of_length_eq_zero (by omega)
    rw [h2, fl_nils]
    exact rel_nil
  · exact rel_row (rels_rep h n)
theorem rel_loop {p : Part} {c : List Inst} (h : Rel p c) (lz : Bool) : Rel (loop p lz) (iLoop c lz) := by
  unfold loop iLoop
  have hp := h.2.1
  have hr := rels3 (rel_split (p.n + 2) lz) h (rel_jump (-(p.n : Int) - 1))
  by_cases hc : c.length < 301
  · rw [show p.n = c.length by omega] at hr ⊢
    exact rel_row hr
  · refine rel_swap hr ?_ ?_
    · rw [lens3]; simp [iSp, iJ]; omega
    · rw [lens3]; simp [iSp, iJ]; omega
theorem iMaybe_len (c : List Inst) (lz : Bool) : ∀ n, (iMaybe c lz n).length = n * (c.length + 1)
  | 0 => by simp [iMaybe]
  | n + 1 => by
    rw [iMaybe, fl_len, lens3, iMaybe_len c lz n, Nat.add_mul]
    simp [iSp]; omega
theorem rel_maybe1 {p o : Part} {c : List Inst} {lz : Bool} {m : Nat} (h : Rel p c) (ho : Rel o (iMaybe c lz m)) : Rel (row [split (1 + p.n + o.n) lz, p, o]) (iMaybe c lz (m + 1)) := by
  rw [iMaybe]
  have hp := h.2.1
  have hq := ho.2.1
  have hr := rels3 (rel_split (1 + p.n + o.n) lz) h ho
  by_cases hc : c.length < 301 ∧ (iMaybe c lz m).length < 301
  · rw [show p.n = c.length by omega, show o.n = (iMaybe c lz m).length by omega] at hr ⊢
    exact rel_row hr
  · refine rel_swap hr ?_ ?_
    · rw [lens3]; simp [iSp]; omega
    · rw [lens3]; simp [iSp]; omega
theorem rel_maybeL {p : Part} {c : List Inst} (h : Rel p c) (lz : Bool) : ∀ (n m : Nat) (o : Part), Rel o (iMaybe c lz m) → Rel (maybeL p lz n o) (iMaybe c lz (m + n))
  | 0, _, _, ho => ho
  | n + 1, m, o, ho => by
    rw [maybeL, show m + (n + 1) = (m + 1) + n by omega]
    exact rel_maybeL h lz n (m + 1) _ (rel_maybe1 h ho)
theorem rel_maybe {p : Part} {c : List Inst} (h : Rel p c) (n : Nat) (lz : Bool) : Rel (maybe p n lz) (iMaybe c lz n) := by
  unfold maybe
  by_cases hp : p.n = 301
  · rw [if_pos hp]
    have h1 := h.2.1
    have h2 := rel_maybeL h lz (min n 1) 0 ⟨[], 0⟩ rel_nil
    rw [Nat.zero_add] at h2
    rcases Nat.lt_or_ge n 1 with hn | hn
    · rw [show min n 1 = n by omega] at h2 ⊢; exact h2
    · rw [show min n 1 = 1 by omega] at h2 ⊢
      have hl1 := iMaybe_len c lz 1
      have hl := iMaybe_len c lz n
      have h5 : c.length + 1 ≤ n * (c.length + 1) := Nat.le_mul_of_pos_left _ hn
      obtain ⟨h3, h4, -⟩ := h2
      refine ⟨h3, by rw [h4]; omega, fun h => by omega⟩
  · rw [if_neg hp]
    have h2 := rel_maybeL h lz n 0 ⟨[], 0⟩ rel_nil
    rwa [Nat.zero_add] at h2
theorem rels_head {ps : List Part} {cs : List (List Inst)} (h : Rels ps cs) : Rel (ps.headD ⟨[], 0⟩) (cs.headD []) := by
  cases h with
  | nil => exact rel_nil
  | cons h _ => exact h
theorem rel_node {x : ReN} {ps : List Part} {cs : List (List Inst)} (h : Rels ps cs) : Rel (nodeP x ps) (iNode x cs) := by
  have hh := rels_head h
  unfold nodeP iNode
  split
  · exact rel_row h
  split
  · exact rel_either h
  split
  · exact rel_one (by simp)
  split
  · exact rel_one (by simp)
  split
  · exact rel_one (by simp)
  split
  · split
    · exact rel_row (rels3 (rel_save _) hh (rel_save _))
    · exact hh
  split
  · exact rel_row (rels2 (rel_many hh _) (rel_loop hh _))
  · exact rel_row (rels2 (rel_many hh _) (rel_maybe hh _ _))
theorem rels_map {n : Nat} {ih : ∀ l, Rel (tree n l) (iTree n l)} : ∀ ls : List (List ReN), Rels (ls.map (tree n)) (ls.map (iTree n))
  | [] => .nil
  | l :: ls => .cons (ih l) (rels_map (ih := ih) ls)
theorem rel_tree : ∀ (n : Nat) (l : List ReN), Rel (tree n l) (iTree n l)
  | 0, _ => rel_nil
  | _ + 1, [] => rel_nil
  | n + 1, x :: r => by
    rw [tree, iTree]
    exact rel_node (rels_map (ih := rel_tree n) _)
/-- The whole program, and its length. -/
def iWhole (l : List ReN) : List Inst := fl 0 [iS 0, iTree l.length l, iS 1, [⟨6, 0, 0, false, []⟩]]
theorem rel_whole (l : List ReN) : Rel (whole l) (iWhole l) := rel_row (rels4 (rel_save 0) (rel_tree _ l) (rel_save 1) (rel_one (by simp)))
theorem iWhole_len (l : List ReN) : (iWhole l).length = (iTree l.length l).length + 3 := by
  rw [iWhole, fl_len, lens4]; simp [iS]; omega

/-- How long codes are. -/
def nsum (ns : List Nat) : Nat := ns.foldr (· + ·) 0
def lenN (x : ReN) (ns : List Nat) : Nat :=
  if x.kind = 0 then nsum ns
  else if x.kind = 1 then nsum ns + 2 * (ns.length - 1)
  else if x.kind = 2 then 1
  else if x.kind = 3 then 1
  else if x.kind = 4 then 1
  else if x.kind = 5 then (if 0 < x.lo then ns.headD 0 + 2 else ns.headD 0)
  else if x.hi < 0 then x.lo.toNat * ns.headD 0 + ns.headD 0 + 2
  else x.lo.toNat * ns.headD 0 + (x.hi - x.lo).toNat * (ns.headD 0 + 1)
def lenT : Nat → List ReN → Nat
  | 0, _ => 0
  | _ + 1, [] => 0
  | n + 1, x :: r => lenN x ((kids r.length r).map (lenT n))
/-- Is nothing in a tree longer than 50000? -/
def smallT : Nat → List ReN → Bool
  | 0, _ => true
  | _ + 1, [] => true
  | n + 1, x :: r => decide (lenT (n + 1) (x :: r) ≤ 50000) && (kids r.length r).all (smallT n)
theorem lens_map (cs : List (List Inst)) : lens cs = nsum (cs.map List.length) := rfl
theorem iEither_len : ∀ cs : List (List Inst), (iEither cs).length = nsum (cs.map List.length) + 2 * (cs.length - 1)
  | [] => rfl
  | [c] => by simp [iEither, nsum]
  | c :: d :: cs => by
    rw [iEither, fl_len, lens4, iEither_len (d :: cs)]
    simp [iSp, iJ, nsum]; omega
theorem lens_rep (c : List Inst) : ∀ n, lens (List.replicate n c) = n * c.length
  | 0 => by simp [lens]
  | n + 1 => by
    have h : lens (List.replicate (n + 1) c) = c.length + lens (List.replicate n c) := rfl
    rw [h, lens_rep c n, Nat.add_mul]; omega
theorem headD_map (cs : List (List Inst)) : (cs.map List.length).headD 0 = (cs.headD []).length := by cases cs <;> rfl
theorem iNode_len (x : ReN) (cs : List (List Inst)) : (iNode x cs).length = lenN x (cs.map List.length) := by
  unfold iNode lenN
  rw [headD_map]
  split
  · rw [fl_len, lens_map]
  split
  · rw [iEither_len, List.length_map]
  split
  · rfl
  split
  · rfl
  split
  · rfl
  split
  · split
    · rw [fl_len, lens3]; simp [iS]; omega
    · rfl
  have h2 : ∀ a b : List Inst, lens [a, b] = a.length + (b.length + 0) := fun _ _ => rfl
  split
  · rw [fl_len, h2, iMany, fl_len, lens_rep, iLoop, fl_len, lens3]; simp [iSp, iJ]; omega
  · rw [fl_len, h2, iMany, fl_len, lens_rep, iMaybe_len]; rfl
theorem iTree_len : ∀ (n : Nat) (l : List ReN), (iTree n l).length = lenT n l
  | 0, _ => rfl
  | _ + 1, [] => rfl
  | n + 1, x :: r => by
    rw [iTree, lenT, iNode_len, List.map_map]
    congr 1
    exact List.map_congr_left fun l _ => iTree_len n l

/-- What the document's size answers. -/
def zsum (zs : List Nat) : Nat := zs.foldl (fun a z => min (a + z) 100000) 0
def szN (x : ReN) (zs : List Nat) : Int :=
  if x.kind = 2 then 1
  else if x.kind = 3 then 1
  else if x.kind = 4 then 1
  else if x.kind = 1 then zsum zs + 2 * ((zs.length : Int) - 1)
  else if x.kind = 5 ∧ 0 < x.lo then zsum zs + 2
  else if x.kind = 6 then (if x.hi < 0 then min (x.lo * zsum zs + zsum zs + 2) 100000 else min (x.lo * zsum zs + (x.hi - x.lo) * (zsum zs + 1)) 100000)
  else zsum zs
def szT : Nat → List ReN → Int
  | 0, _ => 0
  | _ + 1, [] => 0
  | n + 1, x :: r => szN x ((kids r.length r).map fun l => (szT n l).toNat)
/-- Told up to 100000. -/
def Cl (z : Int) (n : Nat) : Prop := 0 ≤ z ∧ min z 100000 = min (n : Int) 100000

/-- What a node asks of its kids. -/
def NOk (x : ReN) (ks : List (List ReN)) : Prop :=
  RX.Sm x ∧ (x.kind = 0 ∨ (x.kind = 1 ∧ 2 ≤ ks.length) ∨ ((x.kind = 2 ∨ x.kind = 3 ∨ x.kind = 4) ∧ ks = []) ∨ (x.kind = 5 ∧ ks.length = 1) ∨ (x.kind = 6 ∧ ks.length = 1 ∧ (x.hi < 0 ∨ x.lo ≤ x.hi)))
/-- A tree whose top is at a depth. -/
inductive Tree : Int → List ReN → Prop
  | mk (e : Int) (x : ReN) (ks : List (List ReN)) : x.deep = e → NOk x ks → (∀ k ∈ ks, Tree (e + 1) k) → Tree e (x :: ks.flatten)
theorem flat_mem {α : Type} {ks : List (List α)} {y : α} (h : y ∈ ks.flatten) : ∃ k ∈ ks, y ∈ k := by
  obtain ⟨k, hk, hy⟩ := List.mem_flatten.1 h
  exact ⟨k, hk, hy⟩
theorem Tree.top {e : Int} {t : List ReN} (h : Tree e t) : ∃ x r, t = x :: r ∧ x.deep = e ∧ ∀ y ∈ r, e < y.deep := by
  induction h with
  | mk e x ks hd hn _ ih =>
    refine ⟨x, _, rfl, hd, fun y hy => ?_⟩
    obtain ⟨k, hk, hy⟩ := flat_mem hy
    obtain ⟨z, r, rfl, h1, h2⟩ := ih k hk
    rcases List.mem_cons.1 hy with rfl | hy
    · omega
    · have := h2 y hy; omega
theorem Tree.pos {e : Int} {t : List ReN} (h : Tree e t) : 0 < t.length := by
  obtain ⟨x, r, rfl, -⟩ := h.top
  simp
/-- The kids of a tree are those that it was made of. -/
theorem kids_trees {e : Int} : ∀ (ks : List (List ReN)) (n : Nat), (∀ k ∈ ks, Tree e k) → ks.flatten.length ≤ n → kids n ks.flatten = ks
  | [], n, _, _ => kids_nil n
  | k :: ks, n, ht, hn => by
    obtain ⟨t, r, rfl, h0, hr⟩ := (ht k (by simp)).top
    rw [List.flatten_cons, List.cons_append] at hn ⊢
    cases n with
    | zero => simp at hn
    | succ n =>
      have hw := takeWhile_all (p := fun y : ReN => decide (t.deep < y.deep)) (a := r) (b := ks.flatten) (fun x hx => by
        have := hr x hx
        exact decide_eq_true (by omega)) (fun x s hx => by
        cases ks with
        | nil => simp at hx
        | cons m ks =>
          obtain ⟨u, q, rfl, hu, -⟩ := (ht m (by simp)).top
          rw [List.flatten_cons, List.cons_append] at hx
          injection hx with hx _
          rw [← hx]
          exact decide_eq_false (by omega))
      rw [kids, hw.1, hw.2, kids_trees ks n (fun m hm => ht m (by simp [hm])) (by simp at hn ⊢; omega)]
theorem flat_len_le {α : Type} {ks : List (List α)} {k : List α} (h : k ∈ ks) : k.length ≤ ks.flatten.length := by
  induction ks with
  | nil => cases h
  | cons m ks ih =>
    rw [List.flatten_cons, List.length_append]
    rcases List.mem_cons.1 h with rfl | h
    · omega
    · have := ih h; omega
theorem lenT_mk {e : Int} {x : ReN} {ks : List (List ReN)} {n : Nat} (h : ∀ k ∈ ks, Tree e k) : lenT (n + 1) (x :: ks.flatten) = lenN x (ks.map (lenT n)) := by
  rw [lenT, kids_trees ks _ h (Nat.le_refl _)]
theorem szT_mk {e : Int} {x : ReN} {ks : List (List ReN)} {n : Nat} (h : ∀ k ∈ ks, Tree e k) : szT (n + 1) (x :: ks.flatten) = szN x (ks.map fun l => (szT n l).toNat) := by
  rw [szT, kids_trees ks _ h (Nat.le_refl _)]
theorem iTree_mk {e : Int} {x : ReN} {ks : List (List ReN)} {n : Nat} (h : ∀ k ∈ ks, Tree e k) : iTree (n + 1) (x :: ks.flatten) = iNode x (ks.map (iTree n)) := by
  rw [iTree, kids_trees ks _ h (Nat.le_refl _)]
theorem smallT_mk {e : Int} {x : ReN} {ks : List (List ReN)} {n : Nat} (h : ∀ k ∈ ks, Tree e k) (hs : smallT (n + 1) (x :: ks.flatten) = true) : lenT (n + 1) (x :: ks.flatten) ≤ 50000 ∧ ∀ k ∈ ks, smallT n k = true := by
  rw [smallT, Bool.and_eq_true, kids_trees ks _ h (Nat.le_refl _)] at hs
  exact ⟨of_decide_eq_true hs.1, fun k hk => List.all_eq_true.1 hs.2 k hk⟩

mutual
theorem wf_tree : ∀ {l : List ReN} {a b : Int}, WF l a b → RX.Sms l → ∀ e : Int, Tree e (l.map (lift e))
  | _, _, _, .leaf x a h0 hd hk, hs, e => by
    have h := Tree.mk e (lift e x) [] (by show x.deep + e = e; omega) ⟨hs x (by simp), .inr (.inr (.inl ⟨by show x.kind = 2 ∨ x.kind = 3 ∨ x.kind = 4; rcases hk with h | h | ⟨h, _⟩ <;> simp [h], rfl⟩))⟩ (by simp)
    exact h
  | _, _, _, .seq x ls a b hd hk hw, hs, e => by
    have hin := RX.sms_in hs
    rw [RX.lift_under, List.map_flatten]
    exact Tree.mk e (lift e x) _ (by show x.deep + e = e; omega) ⟨hin.1, .inl hk⟩ (wfs_trees hw hin.2 (e + 1))
  | _, _, _, .alt x ls a b hd hk h2 hw, hs, e => by
    have hin := RX.sms_in hs
    rw [RX.lift_under, List.map_flatten]
    exact Tree.mk e (lift e x) _ (by show x.deep + e = e; omega) ⟨hin.1, .inr (.inl ⟨hk, by simpa using h2⟩)⟩ (wfs_trees hw hin.2 (e + 1))
  | _, _, _, .rep x l a b hd hk hlh hw, hs, e => by
    have hin := RX.sms_in hs
    rw [RX.lift_under, List.map_flatten]
    refine Tree.mk e (lift e x) _ (by show x.deep + e = e; omega) ⟨hin.1, .inr (.inr (.inr (.inr ⟨hk, by simp, ?_⟩)))⟩ ?_
    · show x.hi < 0 ∨ x.lo ≤ x.hi
      rcases Int.lt_or_le x.hi 0 with h | h
      · exact .inl h
      · exact .inr (hlh h)
    · intro k hk
      simp at hk
      subst hk
      exact wf_tree hw (hin.2 l (by simp)) (e + 1)
  | _, _, _, .grp x l a b hd hk hlo hw, hs, e => by
    have hin := RX.sms_in hs
    rw [RX.lift_under, List.map_flatten]
    refine Tree.mk e (lift e x) _ (by show x.deep + e = e; omega) ⟨hin.1, .inr (.inr (.inr (.inl ⟨hk, by simp⟩)))⟩ ?_
    intro k hk
    simp at hk
    subst hk
    exact wf_tree hw (hin.2 l (by simp)) (e + 1)
  | _, _, _, .num x l a b h1 hd hk hlo hw, hs, e => by
    have hin := RX.sms_in hs
    rw [RX.lift_under, List.map_flatten]
    refine Tree.mk e (lift e x) _ (by show x.deep + e = e; omega) ⟨hin.1, .inr (.inr (.inr (.inl ⟨hk, by simp⟩)))⟩ ?_
    intro k hk
    simp at hk
    subst hk
    exact wf_tree hw (hin.2 l (by simp)) (e + 1)
theorem wfs_trees : ∀ {ls : List (List ReN)} {a b : Int}, WFs ls a b → (∀ l ∈ ls, RX.Sms l) → ∀ e : Int, ∀ k ∈ ls.map (List.map (lift e)), Tree e k
  | _, _, _, .nil a h0, _, e, k, hk => by simp at hk
  | _, _, _, .cons m ls a b c hw hs, hm, e, k, hk => by
    rw [List.map_cons] at hk
    rcases List.mem_cons.1 hk with rfl | hk
    · exact wf_tree hw (hm _ (by simp)) e
    · exact wfs_trees hs (fun q hq => hm q (by simp [hq])) e k hk
end

theorem zfold : ∀ (zs : List Nat) (a : Nat), a ≤ 100000 → zs.foldl (fun a z => min (a + z) 100000) a = min (a + nsum zs) 100000
  | [], a, h => by simp [nsum]; omega
  | z :: zs, a, h => by
    have h1 : nsum (z :: zs) = z + nsum zs := rfl
    rw [List.foldl_cons, zfold zs _ (by omega), h1]; omega
theorem zsum_eq (zs : List Nat) : zsum zs = min (nsum zs) 100000 := by rw [zsum, zfold zs 0 (by omega), Nat.zero_add]
theorem nsum_cl (f g : List ReN → Nat) : ∀ ks : List (List ReN), (∀ k ∈ ks, min (f k) 100000 = min (g k) 100000) → min (nsum (ks.map f)) 100000 = min (nsum (ks.map g)) 100000
  | [], _ => rfl
  | k :: ks, h => by
    have h1 : nsum ((k :: ks).map f) = f k + nsum (ks.map f) := rfl
    have h2 : nsum ((k :: ks).map g) = g k + nsum (ks.map g) := rfl
    have := h k (by simp)
    have := nsum_cl f g ks (fun m hm => h m (by simp [hm]))
    rw [h1, h2]; omega
theorem one_list {α : Type} {l : List α} (h : l.length = 1) : ∃ x, l = [x] := by
  match l, h with
  | [x], _ => exact ⟨x, rfl⟩
theorem rep_cl {a b m : Nat} (h : min a 100000 = min b 100000) : min (m * a) 100000 = min (m * b) 100000 := by
  rcases Nat.lt_or_ge a 100000 with h1 | h1
  · rw [show a = b by omega]
  · cases m with
    | zero => simp
    | succ m =>
      have h2 : a ≤ (m + 1) * a := Nat.le_mul_of_pos_left _ (by omega)
      have h3 : b ≤ (m + 1) * b := Nat.le_mul_of_pos_left _ (by omega)
      omega
set_option maxRecDepth 1000000 in
/-- The document's size tells the length, up to 100000. -/
theorem sz_cl {e : Int} {t : List ReN} (h : Tree e t) : ∀ n, t.length ≤ n → Cl (szT n t) (lenT n t) := by
  induction h with
  | mk e x ks hd hn hks ih =>
    intro n hl
    cases n with
    | zero => simp at hl
    | succ n =>
      rw [szT_mk hks, lenT_mk hks]
      have hz : min (zsum (ks.map fun l => (szT n l).toNat)) 100000 = min (nsum (ks.map (lenT n))) 100000 := by
        rw [zsum_eq]
        have := nsum_cl (fun l => (szT n l).toNat) (lenT n) ks (fun k hk => by
          have := flat_len_le hk
          have h1 := ih k hk n (by have h2 : (x :: ks.flatten).length = ks.flatten.length + 1 := List.length_cons; omega)
          have := h1.1
          have := h1.2
          show min (szT n k).toNat 100000 = _
          omega)
        omega
      have hz1 : zsum (ks.map fun l => (szT n l).toNat) ≤ 100000 := by rw [zsum_eq]; omega
      have hzl : (ks.map fun l => (szT n l).toNat).length = ks.length := List.length_map _
      have hnl : (ks.map (lenT n)).length = ks.length := List.length_map _
      have hhd : ks.length = 1 → nsum (ks.map (lenT n)) = (ks.map (lenT n)).headD 0 := fun h1 => by
        obtain ⟨k, rfl⟩ := one_list h1
        simp [nsum]
      obtain ⟨⟨-, hlo, hlo9, hhi⟩, hk⟩ := hn
      unfold szN lenN
      rw [hzl, hnl]
      generalize zsum (ks.map fun l => (szT n l).toNat) = z at hz hz1 ⊢
      generalize nsum (ks.map (lenT n)) = m at hz hhd ⊢
      generalize (ks.map (lenT n)).headD 0 = b at hhd ⊢
      rcases hk with hk | ⟨hk, h2⟩ | ⟨hk, h2⟩ | ⟨hk, h2⟩ | ⟨hk, h2, h3⟩
      · simp only [hk]
        simp
        exact ⟨by omega, by omega⟩
      · simp only [hk]
        simp
        exact ⟨by omega, by omega⟩
      · rcases hk with hk | hk | hk <;> (simp only [hk]; simp; exact ⟨by omega, by omega⟩)
      · have hh := hhd h2
        subst hh
        simp only [hk]
        simp
        split
        · exact ⟨by omega, by omega⟩
        · exact ⟨by omega, by omega⟩
      · have hh := hhd h2
        subst hh
        simp only [hk]
        simp
        obtain ⟨a, ha⟩ : ∃ a : Nat, x.lo = a := ⟨x.lo.toNat, by omega⟩
        rw [ha]
        have h5 := rep_cl (m := a) hz
        have h6 : ((a : Int) * (z : Int)) = ((a * z : Nat) : Int) := by push_cast; rfl
        rw [h6]
        split
        · rename_i hneg
          simp
          exact ⟨by omega, by omega⟩
        · rename_i hneg
          obtain ⟨d, hd⟩ : ∃ d : Nat, x.hi - x.lo = d := ⟨(x.hi - x.lo).toNat, by omega⟩
          have hd2 : x.hi - (a : Int) = d := by omega
          rw [hd2]
          have h7 : ((d : Int) * ((z : Int) + 1)) = ((d * (z + 1) : Nat) : Int) := by push_cast; rfl
          rw [h7]
          have h8 := rep_cl (a := z + 1) (b := m + 1) (m := d) (by omega)
          simp
          exact ⟨by omega, by omega⟩
end Go.Proofs.YtfblkahjefdmaaaGreat.PG

/- Plain law: how the document lays a node's instructions; their targets. No program in sight. -/
namespace Go.Proofs.YtfblkahjefdmaaaGreat.PG
open RX (ReN)

theorem moved_moved (a b : Int) (x : Inst) : moved a (moved b x) = moved (a + b) x := by
  by_cases h4 : x.op = 4
  · simp only [moved, h4, if_pos]
    congr 1 <;> omega
  · by_cases h5 : x.op = 5
    · simp only [moved, h5, if_neg (show ¬ (5 : Int) = 4 by decide), if_pos]
      congr 1; omega
    · simp only [moved, if_neg h4, if_neg h5]
theorem moved_zero (x : Inst) : moved 0 x = x := by
  unfold moved
  split
  · simp
  · split
    · simp
    · rfl
theorem map_zero (c : List Inst) : c.map (moved 0) = c := by
  conv => rhs; rw [← List.map_id c]
  exact List.map_congr_left fun x _ => by rw [moved_zero]; rfl
theorem map_moved (a b : Nat) (c : List Inst) : (c.map (moved b)).map (moved a) = c.map (moved (a + b : Nat)) := by
  rw [List.map_map]
  exact List.map_congr_left fun x _ => by
    show moved a (moved b x) = _
    rw [moved_moved]; push_cast; rfl
theorem fl_moved (j : Nat) : ∀ (cs : List (List Inst)) (k : Nat), (fl k cs).map (moved j) = fl (j + k) cs
  | [], _ => rfl
  | c :: cs, k => by
    rw [fl, fl, List.map_append, map_moved, fl_moved j cs, Nat.add_assoc]
theorem fl_snoc : ∀ (cs : List (List Inst)) (c : List Inst) (k : Nat), fl k (cs ++ [c]) = fl k cs ++ c.map (moved (k + lens cs : Nat))
  | [], c, k => by simp [fl, lens]
  | d :: cs, c, k => by
    have h : lens (d :: cs) = d.length + lens cs := rfl
    rw [List.cons_append, fl, fl, fl_snoc cs c, List.append_assoc, h, Nat.add_assoc]
theorem fl_one (c : List Inst) : fl 0 [c] = c := by simp [fl, map_zero]

/-- The document's alternatives: a row laid on. -/
def chL (all : Int) : List Inst → List (List Inst) → List Inst
  | out, [] => out
  | out, [c] => out ++ c.map (moved out.length)
  | out, c :: d :: cs => chL all (out ++ [⟨4, out.length + 1, out.length + c.length + 2, false, []⟩] ++ c.map (moved (out.length + 1 : Nat)) ++ [⟨5, all, 0, false, []⟩]) (d :: cs)
theorem chL_eq (all : Int) : ∀ (cs : List (List Inst)) (out : List Inst), all = out.length + (iEither cs).length → chL all out cs = out ++ (iEither cs).map (moved out.length)
  | [], out, _ => by simp [chL, iEither]
  | [c], out, _ => rfl
  | c :: d :: cs, out, h => by
    have he : iEither (c :: d :: cs) = fl 0 [iSp (c.length + 2) false, c, iJ ((iEither (d :: cs)).length + 1), iEither (d :: cs)] := rfl
    have hl : (iEither (c :: d :: cs)).length = c.length + (iEither (d :: cs)).length + 2 := by rw [he, fl_len, lens4]; simp [iSp, iJ]; omega
    rw [chL, chL_eq all (d :: cs) _ (by simp only [List.length_append, List.length_map, List.length_cons, List.length_nil]; push_cast; omega), he, fl_moved]
    simp only [fl, iSp, iJ, List.length_append, List.length_map, List.length_cons, List.length_nil, List.map_cons, List.map_nil, List.append_assoc, List.append_nil, Nat.add_zero, Nat.zero_add]
    congr 1
    simp only [List.cons_append, List.nil_append]
    have h1 : moved (out.length : Int) ⟨4, 1, (c.length : Int) + 2, false, []⟩ = ⟨4, out.length + 1, out.length + c.length + 2, false, []⟩ := by
      simp only [moved, if_pos]
      congr 1 <;> omega
    have h2 : moved ((out.length + 1 + c.length : Nat) : Int) ⟨5, ((iEither (d :: cs)).length : Int) + 1, 0, false, []⟩ = ⟨5, all, 0, false, []⟩ := by
      simp only [moved, if_neg (show ¬ (5 : Int) = 4 by decide), if_pos]
      congr 1; rw [h, hl]; push_cast; omega
    simp only [Bool.false_eq_true, if_false]
    rw [h1, h2]
    simp only [Nat.add_assoc, Nat.add_comm 1]
/-- The document's repeats. -/
def sp2 (lz : Bool) (on off : Int) : Inst := if lz then ⟨4, off, on, false, []⟩ else ⟨4, on, off, false, []⟩
def rpM (c : List Inst) : Nat → List Inst → List Inst
  | 0, out => out
  | n + 1, out => rpM c n (out ++ c.map (moved out.length))
def mayM (lz : Bool) (all : Int) (c : List Inst) : Nat → List Inst → List Inst
  | 0, out => out
  | n + 1, out => mayM lz all c n (out ++ [sp2 lz (out.length + 1) all] ++ c.map (moved (out.length + 1 : Nat)))
theorem rpM_eq (c : List Inst) : ∀ (n : Nat) (out : List Inst), rpM c n out = out ++ fl out.length (List.replicate n c)
  | 0, out => by simp [rpM, fl]
  | n + 1, out => by
    rw [rpM, rpM_eq c n, List.replicate_succ, fl, List.append_assoc, List.length_append, List.length_map]
theorem moved_sp (k : Nat) (far : Int) (lz : Bool) (a b : Int) (ha : a = k + 1) (hb : b = k + far) : (iSp far lz).map (moved k) = [sp2 lz a b] := by
  subst ha hb
  cases lz
  · simp only [iSp, sp2, List.map_cons, List.map_nil, moved, Bool.false_eq_true, if_false, if_pos]
    rw [Int.add_comm 1, Int.add_comm far]
  · simp only [iSp, sp2, List.map_cons, List.map_nil, moved, if_pos]
    rw [Int.add_comm 1, Int.add_comm far]
theorem mayM_eq (lz : Bool) (all : Int) (c : List Inst) : ∀ (n : Nat) (out : List Inst), all = out.length + (n : Int) * (c.length + 1) → mayM lz all c n out = out ++ (iMaybe c lz n).map (moved out.length)
  | 0, out, _ => by simp [mayM, iMaybe]
  | n + 1, out, h => by
    have hm : ((n + 1 : Nat) : Int) * ((c.length : Int) + 1) = (n : Int) * (c.length + 1) + (c.length + 1) := by push_cast; rw [Int.add_mul, Int.one_mul]
    rw [hm] at h
    have hl : ((iMaybe c lz n).length : Int) = (n : Int) * ((c.length : Int) + 1) := by rw [iMaybe_len]; push_cast; rfl
    rw [mayM, mayM_eq lz all c n _ (by simp only [List.length_append, List.length_map, List.length_cons, List.length_nil]; push_cast; omega), iMaybe, fl_moved]
    simp only [fl, List.length_append, List.length_map, List.append_assoc, List.append_nil, Nat.add_zero]
    have h1 := moved_sp out.length (1 + c.length + (iMaybe c lz n).length) lz (out.length + 1) all rfl (by rw [h, hl]; omega)
    rw [h1]
    simp only [iSp, List.length_cons, List.length_nil, Nat.zero_add]
    rw [show out.length + (1 + c.length) = out.length + 1 + c.length by omega]
def repC (lo hi : Int) (lz : Bool) (c : List Inst) : List Inst :=
  if hi < 0 then rpM c lo.toNat [] ++ [sp2 lz ((rpM c lo.toNat []).length + 1) ((rpM c lo.toNat []).length + c.length + 2)] ++ c.map (moved ((rpM c lo.toNat []).length + 1 : Nat)) ++ [⟨5, (rpM c lo.toNat []).length, 0, false, []⟩]
  else mayM lz ((rpM c lo.toNat []).length + (hi - lo) * (c.length + 1)) c (hi - lo).toNat (rpM c lo.toNat [])
theorem repC_eq (lo hi : Int) (lz : Bool) (c : List Inst) (h : hi < 0 ∨ lo ≤ hi) : repC lo hi lz c = if hi < 0 then fl 0 [iMany c lo.toNat, iLoop c lz] else fl 0 [iMany c lo.toNat, iMaybe c lz (hi - lo).toNat] := by
  have hm : rpM c lo.toNat [] = iMany c lo.toNat := by rw [rpM_eq]; rfl
  unfold repC
  rw [hm]
  generalize iMany c lo.toNat = o
  have h2 : ∀ a b : List Inst, fl 0 [a, b] = a ++ b.map (moved (a.length : Nat)) := fun a b => by
    simp only [fl, List.append_nil, Nat.zero_add]
    rw [show ((0 : Nat) : Int) = 0 from rfl, map_zero]
  split
  · rw [h2, iLoop, fl_moved]
    simp only [fl, List.append_nil, Nat.add_zero, List.append_assoc]
    have h1 := moved_sp o.length (c.length + 2) lz (o.length + 1) (o.length + c.length + 2) rfl (by omega)
    rw [h1]
    have h3 : (iJ (-(c.length : Int) - 1)).map (moved ((o.length + (iSp ((c.length : Int) + 2) lz).length + c.length : Nat) : Int)) = [⟨5, o.length, 0, false, []⟩] := by
      simp only [iJ, iSp, List.map_cons, List.map_nil, moved, if_neg (show ¬ (5 : Int) = 4 by decide), if_pos, List.length_cons, List.length_nil]
      congr 2; push_cast; omega
    rw [h3]
    simp only [iSp, List.length_cons, List.length_nil, Nat.zero_add]
  · rw [mayM_eq _ _ _ _ _ (by rw [Int.toNat_of_nonneg (by omega)]), h2]
/-- The document's rows. -/
def cat : List Inst → List (List Inst) → List Inst
  | out, [] => out
  | out, c :: cs => cat (out ++ c.map (moved out.length)) cs
theorem cat_eq : ∀ (cs : List (List Inst)) (out : List Inst), cat out cs = out ++ fl out.length cs
  | [], out => by simp [cat, fl]
  | c :: cs, out => by
    rw [cat, cat_eq cs, fl, List.append_assoc, List.length_append, List.length_map]
theorem cat_seq (cs : List (List Inst)) : cat [] cs = fl 0 cs := by rw [cat_eq]; rfl
theorem cat_num (x : Int) (c : List Inst) : cat (iS x) [c] ++ iS (x + 1) = fl 0 [iS x, c, iS (x + 1)] := by
  rw [cat_eq]
  simp only [fl, iS, List.append_nil, List.append_assoc]
  rfl

/-- Targets at most so far. -/
def Tb (n : Nat) (c : List Inst) : Prop := ∀ x ∈ c, (x.op = 4 → 0 ≤ x.x ∧ x.x ≤ n ∧ 0 ≤ x.y ∧ x.y ≤ n) ∧ (x.op = 5 → 0 ≤ x.x ∧ x.x ≤ n)
theorem Tb.mono {n m : Nat} {c : List Inst} (h : Tb n c) (hn : n ≤ m) : Tb m c := fun x hx => by
  have := h x hx
  exact ⟨fun h4 => by have := this.1 h4; omega, fun h5 => by have := this.2 h5; omega⟩
theorem tb_nil (n : Nat) : Tb n [] := by intro x hx; cases hx
theorem Tb.app {n : Nat} {c d : List Inst} (h : Tb n c) (h2 : Tb n d) : Tb n (c ++ d) := fun x hx => by
  rcases List.mem_append.1 hx with h1 | h1
  · exact h x h1
  · exact h2 x h1
theorem Tb.map_ {n k m : Nat} {c : List Inst} (h : Tb n c) (hm : k + n ≤ m) : Tb m (c.map (moved k)) := fun y hy => by
  obtain ⟨x, hx, rfl⟩ := List.mem_map.1 hy
  have := h x hx
  refine ⟨fun h4 => ?_, fun h5 => ?_⟩
  · rw [moved_op] at h4
    have := this.1 h4
    simp only [moved, if_pos h4]
    omega
  · rw [moved_op] at h5
    have := this.2 h5
    simp only [moved, if_neg (show ¬ x.op = 4 by omega), if_pos h5]
    omega
theorem tb_one {n : Nat} {x : Inst} (h : (x.op = 4 → 0 ≤ x.x ∧ x.x ≤ n ∧ 0 ≤ x.y ∧ x.y ≤ n) ∧ (x.op = 5 → 0 ≤ x.x ∧ x.x ≤ n)) : Tb n [x] := by
  intro y hy
  simp at hy
  subst hy
  exact h
theorem tb_fl : ∀ (cs : List (List Inst)) (k m : Nat), (∀ c ∈ cs, Tb c.length c) → k + lens cs ≤ m → Tb m (fl k cs)
  | [], _, m, _, _ => tb_nil m
  | c :: cs, k, m, h, hm => by
    have h2 : lens (c :: cs) = c.length + lens cs := rfl
    exact ((h c (by simp)).map_ (by omega)).app (tb_fl cs (k + c.length) m (fun d hd => h d (by simp [hd])) (by omega))
theorem tb_save (x : Int) (n : Nat) : Tb n (iS x) := tb_one ⟨fun h => absurd h (show ¬ (3 : Int) = 4 by decide), fun h => absurd h (show ¬ (3 : Int) = 5 by decide)⟩
theorem tb_sp2 {n : Nat} (lz : Bool) {a b : Int} (ha : 0 ≤ a ∧ a ≤ n) (hb : 0 ≤ b ∧ b ≤ n) : Tb n [sp2 lz a b] := by
  cases lz
  · exact tb_one ⟨fun _ => ⟨ha.1, ha.2, hb.1, hb.2⟩, fun h => absurd h (show ¬ (4 : Int) = 5 by decide)⟩
  · exact tb_one ⟨fun _ => ⟨hb.1, hb.2, ha.1, ha.2⟩, fun h => absurd h (show ¬ (4 : Int) = 5 by decide)⟩
theorem tb_jump {n : Nat} {a : Int} (ha : 0 ≤ a ∧ a ≤ n) : Tb n [⟨5, a, 0, false, []⟩] := tb_one ⟨fun h => absurd h (show ¬ (5 : Int) = 4 by decide), fun _ => ha⟩
theorem tb_chL : ∀ (cs : List (List Inst)) (out : List Inst) (m : Nat), (∀ c ∈ cs, Tb c.length c) → Tb m out → m = out.length + (iEither cs).length → Tb m (chL m out cs)
  | [], out, m, _, ho, _ => ho
  | [c], out, m, h, ho, hm => ho.app ((h c (by simp)).map_ (by rw [hm]; exact Nat.le_refl _))
  | c :: d :: cs, out, m, h, ho, hm => by
    have he : iEither (c :: d :: cs) = fl 0 [iSp (c.length + 2) false, c, iJ ((iEither (d :: cs)).length + 1), iEither (d :: cs)] := rfl
    have hl : (iEither (c :: d :: cs)).length = c.length + (iEither (d :: cs)).length + 2 := by rw [he, fl_len, lens4]; simp [iSp, iJ]; omega
    rw [chL]
    refine tb_chL (d :: cs) _ m (fun x hx => h x (by simp at hx ⊢; exact .inr hx)) ?_ (by simp only [List.length_append, List.length_map, List.length_cons, List.length_nil]; omega)
    exact ((ho.app (tb_sp2 false (a := out.length + 1) (b := out.length + c.length + 2) (by omega) (by omega))).app ((h c (by simp)).map_ (by omega))).app (tb_jump (by omega))
theorem tb_either (cs : List (List Inst)) (h : ∀ c ∈ cs, Tb c.length c) : Tb (iEither cs).length (iEither cs) := by
  have h1 := tb_chL cs [] (iEither cs).length h (tb_nil _) (by simp)
  rw [chL_eq _ cs [] (by simp)] at h1
  simp only [List.nil_append, List.length_nil] at h1
  rwa [show ((0 : Nat) : Int) = 0 from rfl, map_zero] at h1
theorem tb_maybe (c : List Inst) (lz : Bool) (h : Tb c.length c) : ∀ n, Tb (iMaybe c lz n).length (iMaybe c lz n)
  | 0 => tb_nil _
  | n + 1 => by
    have ih := tb_maybe c lz h n
    have hl : (iMaybe c lz (n + 1)).length = 1 + c.length + (iMaybe c lz n).length := by rw [iMaybe, fl_len, lens3]; simp [iSp]; omega
    rw [hl, iMaybe]
    simp only [fl, List.append_nil]
    have h1 := moved_sp 0 (1 + c.length + (iMaybe c lz n).length) lz 1 (1 + c.length + (iMaybe c lz n).length) rfl (by omega)
    rw [h1]
    refine (tb_sp2 lz (by omega) (by omega)).app ((h.map_ ?_).app (ih.map_ ?_))
    · simp [iSp]
    · simp [iSp]
theorem tb_loop (c : List Inst) (lz : Bool) (h : Tb c.length c) : Tb (iLoop c lz).length (iLoop c lz) := by
  have hl : (iLoop c lz).length = c.length + 2 := by rw [iLoop, fl_len, lens3]; simp [iSp, iJ]; omega
  rw [hl, iLoop]
  simp only [fl, List.append_nil]
  have h1 := moved_sp 0 (c.length + 2) lz 1 (c.length + 2) rfl (by omega)
  rw [h1]
  refine (tb_sp2 lz (by omega) (by omega)).app ((h.map_ ?_).app ?_)
  · simp [iSp]; omega
  · have h3 : (iJ (-(c.length : Int) - 1)).map (moved ((0 + (iSp ((c.length : Int) + 2) lz).length + c.length : Nat) : Int)) = [⟨5, 0, 0, false, []⟩] := by
      simp only [iJ, iSp, List.map_cons, List.map_nil, moved, if_neg (show ¬ (5 : Int) = 4 by decide), if_pos, List.length_cons, List.length_nil]
      congr 2; push_cast; omega
    rw [h3]
    exact tb_jump (by omega)
theorem tb_many (c : List Inst) (h : Tb c.length c) (n : Nat) : Tb (iMany c n).length (iMany c n) := by
  unfold iMany
  rw [fl_len]
  exact tb_fl _ 0 _ (fun d hd => by rw [List.eq_of_mem_replicate hd]; exact h) (by omega)
theorem tb_head {cs : List (List Inst)} (h : ∀ c ∈ cs, Tb c.length c) : Tb (cs.headD []).length (cs.headD []) := by
  cases cs with
  | nil => exact tb_nil _
  | cons c cs => exact h c (by simp)
theorem tb_node (x : ReN) (cs : List (List Inst)) (h : ∀ c ∈ cs, Tb c.length c) : Tb (iNode x cs).length (iNode x cs) := by
  have hh := tb_head h
  unfold iNode
  split
  · rw [fl_len]; exact tb_fl _ 0 _ h (by omega)
  split
  · exact tb_either cs h
  split
  · exact tb_one ⟨fun h => absurd h (show ¬ (0 : Int) = 4 by decide), fun h => absurd h (show ¬ (0 : Int) = 5 by decide)⟩
  split
  · exact tb_one ⟨fun h => absurd h (show ¬ (1 : Int) = 4 by decide), fun h => absurd h (show ¬ (1 : Int) = 5 by decide)⟩
  split
  · exact tb_one ⟨fun h => absurd h (show ¬ (2 : Int) = 4 by decide), fun h => absurd h (show ¬ (2 : Int) = 5 by decide)⟩
  split
  · split
    · rw [fl_len]
      refine tb_fl _ 0 _ (fun c hc => ?_) (by omega)
      simp at hc
      rcases hc with rfl | rfl | rfl
      · exact tb_save _ _
      · simpa using hh
      · exact tb_save _ _
    · exact hh
  split
  · rw [fl_len]
    refine tb_fl _ 0 _ (fun c hc => ?_) (by omega)
    simp at hc
    rcases hc with rfl | rfl
    · exact tb_many _ (by simpa using hh) _
    · exact tb_loop _ _ (by simpa using hh)
  · rw [fl_len]
    refine tb_fl _ 0 _ (fun c hc => ?_) (by omega)
    simp at hc
    rcases hc with rfl | rfl
    · exact tb_many _ (by simpa using hh) _
    · exact tb_maybe _ _ (by simpa using hh) _
theorem tb_tree : ∀ (n : Nat) (l : List ReN), Tb (iTree n l).length (iTree n l)
  | 0, _ => tb_nil _
  | _ + 1, [] => tb_nil _
  | n + 1, x :: r => by
    rw [iTree]
    refine tb_node x _ (fun c hc => ?_)
    obtain ⟨l, _, rfl⟩ := List.mem_map.1 hc
    exact tb_tree n l
end Go.Proofs.YtfblkahjefdmaaaGreat.PG

/- Plain law: a folding matcher finds the same in letters of either case. No program in sight. -/
namespace Go.Proofs.YtfblkahjefdmaaaGreat.MX
open PG (Inst)

/-- Small letters, great letters. -/
def Small (r : Int) : Prop := (97 ≤ r ∧ r ≤ 122) ∨ (224 ≤ r ∧ r ≤ 254 ∧ r ≠ 247)
def Great (r : Int) : Prop := (65 ≤ r ∧ r ≤ 90) ∨ (192 ≤ r ∧ r ≤ 222 ∧ r ≠ 215)
theorem upper_small {r : Int} (h : Small r) : RX.upper r = r - 32 := by
  unfold RX.upper RX.within
  unfold Small at h
  rw [if_pos (by simp only [Bool.and_eq_true, decide_eq_true_eq]; omega)]
theorem upper_not {r : Int} (h : ¬ Small r) : RX.upper r = r := by
  unfold RX.upper RX.within
  unfold Small at h
  rw [if_neg (by simp only [Bool.and_eq_true, decide_eq_true_eq]; omega)]
theorem lower_great {r : Int} (h : Great r) : RX.lower r = r + 32 := by
  unfold RX.lower RX.within
  unfold Great at h
  rw [if_pos (by simp only [Bool.and_eq_true, decide_eq_true_eq]; omega)]
theorem lower_not {r : Int} (h : ¬ Great r) : RX.lower r = r := by
  unfold RX.lower RX.within
  unfold Great at h
  rw [if_neg (by simp only [Bool.and_eq_true, decide_eq_true_eq]; omega)]
theorem isIn_case (r q : Int) (x : Inst) (h : q = RX.upper r ∨ q = RX.lower r) : isIn true q x = isIn true r x := by
  unfold isIn
  congr 1
  simp only [Bool.true_and]
  by_cases hs : Small r
  · have hg : ¬ Great r := by unfold Small at hs; unfold Great; omega
    have hg2 : Great (r - 32) := by unfold Small at hs; unfold Great; omega
    have hs2 : ¬ Small (r - 32) := by unfold Small at hs ⊢; omega
    rw [upper_small hs, lower_not hg] at h ⊢
    rcases h with rfl | rfl
    · rw [upper_not hs2, lower_great hg2, show r - 32 + 32 = r by omega]
      cases lies (r - 32) x.set <;> cases lies r x.set <;> rfl
    · rw [upper_small hs, lower_not hg]
  · by_cases hg : Great r
    · have hg2 : ¬ Great (r + 32) := by unfold Great at hg ⊢; omega
      have hs2 : Small (r + 32) := by unfold Great at hg; unfold Small; omega
      rw [upper_not hs, lower_great hg] at h ⊢
      rcases h with rfl | rfl
      · rw [upper_not hs, lower_great hg]
      · rw [upper_small hs2, lower_not hg2, show r + 32 - 32 = r by omega]
        cases lies (r + 32) x.set <;> cases lies r x.set <;> rfl
    · rw [upper_not hs, lower_not hg] at h ⊢
      rcases h with rfl | rfl <;> rw [upper_not hs, lower_not hg]
/-- The same text, in letters of either case. -/
def Cased (s u : List Int) : Prop := u.length = s.length ∧ ∀ (i : Nat) (r : Int), s[i]? = some r → u[i]? = some (RX.upper r) ∨ u[i]? = some (RX.lower r)
theorem hits_case {s u : List Int} (h : Cased s u) (at_ : Nat) (x : Inst) : hits true u at_ x = hits true s at_ x := by
  unfold hits
  rcases hs : s[at_]? with _ | r
  · rw [List.getElem?_eq_none (by have := List.getElem?_eq_none_iff.1 hs; have := h.1; omega)]
  · rcases h.2 at_ r hs with h1 | h1
    · rw [h1]; exact isIn_case r _ x (.inl rfl)
    · rw [h1]; exact isIn_case r _ x (.inr rfl)
theorem act_case {s u : List Int} (h : Cased s u) (prog : List Inst) : act prog true u = act prog true s := by
  funext pc at_
  unfold act
  simp only [hits_case h, h.1]
end Go.Proofs.YtfblkahjefdmaaaGreat.MX
