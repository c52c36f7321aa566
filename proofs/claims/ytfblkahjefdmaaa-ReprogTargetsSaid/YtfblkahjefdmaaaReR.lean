/- Plain law: the rows of a regular text's tree. No program in sight. -/
import Derived.Test.YtfblkahjefdmaaaReL
namespace Go.Proofs.Ytfblkahjefdmaaa.RX

def kids (d : Int) : List ReN → Nat
  | [] => 0
  | x :: r => if d < x.deep then (if x.deep = d + 1 then 1 else 0) + kids d r else 0
def nodeOk (x : ReN) (k : Nat) (n : Int) : Prop :=
  (x.kind = 5 → k = 1 ∧ (0 < x.lo → x.lo = n + 1)) ∧ (x.kind = 6 → k = 1 ∧ (0 ≤ x.hi → x.lo ≤ x.hi)) ∧ (x.kind = 1 → 2 ≤ k) ∧ (x.kind = 2 → k = 0 ∧ 0 < x.set.length ∧ x.set.length % 2 = 0)
def after (n : Int) (x : ReN) : Int := if x.kind = 5 then max n x.lo else n
def rowsOk : Int → List ReN → Prop
  | _, [] => True
  | n, x :: r => nodeOk x (kids x.deep r) n ∧ rowsOk (after n x) r
def steps : Int → List ReN → Prop
  | _, [] => True
  | p, x :: r => 1 ≤ x.deep ∧ x.deep ≤ p + 1 ∧ steps x.deep r
def last (n : Int) : List ReN → Int
  | [] => n
  | x :: r => last (after n x) r
def lift (d : Int) (x : ReN) : ReN := { x with deep := x.deep + d }
/-- What stands behind is no deeper. -/
def Shut (d : Int) : List ReN → Prop
  | [] => True
  | x :: _ => x.deep ≤ d

mutual
inductive WF : List ReN → Int → Int → Prop
  | leaf (x : ReN) (a : Int) : 0 ≤ a → x.deep = 0 → (x.kind = 3 ∨ x.kind = 4 ∨ (x.kind = 2 ∧ 0 < x.set.length ∧ x.set.length % 2 = 0)) → WF [x] a a
  | seq (x : ReN) (ls : List (List ReN)) (a b : Int) : x.deep = 0 → x.kind = 0 → WFs ls a b → WF (under x ls) a b
  | alt (x : ReN) (ls : List (List ReN)) (a b : Int) : x.deep = 0 → x.kind = 1 → 2 ≤ ls.length → WFs ls a b → WF (under x ls) a b
  | rep (x : ReN) (l : List ReN) (a b : Int) : x.deep = 0 → x.kind = 6 → (0 ≤ x.hi → x.lo ≤ x.hi) → WF l a b → WF (under x [l]) a b
  | grp (x : ReN) (l : List ReN) (a b : Int) : x.deep = 0 → x.kind = 5 → x.lo = 0 → WF l a b → WF (under x [l]) a b
  | num (x : ReN) (l : List ReN) (a b : Int) : 0 ≤ a → x.deep = 0 → x.kind = 5 → x.lo = a + 1 → WF l (a + 1) b → WF (under x [l]) a b
inductive WFs : List (List ReN) → Int → Int → Prop
  | nil (a : Int) : 0 ≤ a → WFs [] a a
  | cons (l : List ReN) (ls : List (List ReN)) (a b c : Int) : WF l a b → WFs ls b c → WFs (l :: ls) a c
end

theorem WFs.one {l : List ReN} {a b : Int} (h : WF l a b) (hb : 0 ≤ b) : WFs [l] a b := .cons l [] a b b h (.nil b hb)

theorem steps_mono : ∀ {l : List ReN} {p q : Int}, p ≤ q → steps p l → steps q l
  | [], _, _, _, _ => trivial
  | x :: r, p, q, h, ⟨h1, h2, h3⟩ => ⟨h1, by omega, h3⟩
theorem kids_shut {d : Int} : ∀ {l : List ReN}, Shut d l → kids d l = 0
  | [], _ => rfl
  | x :: r, h => by
    have h : x.deep ≤ d := h
    unfold kids; rw [if_neg (by omega)]
theorem Shut.mono {d e : Int} {l : List ReN} (h : Shut d l) (hd : d ≤ e) : Shut e l := by
  cases l with
  | nil => trivial
  | cons x r => exact Int.le_trans h hd

/-- The shape of a tree: its top, and what is deeper. -/
def Top (l : List ReN) : Prop := ∃ x r, l = x :: r ∧ x.deep = 0 ∧ ∀ y ∈ r, 1 ≤ y.deep
theorem kids_deep {d : Int} : ∀ (r rest : List ReN), (∀ y ∈ r, d + 2 ≤ y.deep) → kids d (r ++ rest) = kids d rest
  | [], _, _ => rfl
  | y :: r, rest, h => by
    have h1 := h y (by simp)
    rw [List.cons_append, kids, if_pos (by omega), if_neg (by omega), kids_deep r rest (fun z hz => h z (by simp [hz])), Nat.zero_add]
theorem kids_top {l : List ReN} (h : Top l) {d : Int} (rest : List ReN) : kids d (l.map (lift (d + 1)) ++ rest) = 1 + kids d rest := by
  obtain ⟨x, r, rfl, h0, hr⟩ := h
  rw [List.map_cons, List.cons_append, kids, if_pos (by show d < x.deep + (d + 1); omega), if_pos (by show x.deep + (d + 1) = d + 1; omega), kids_deep]
  intro y hy
  obtain ⟨z, hz, rfl⟩ := List.mem_map.1 hy
  have := hr z hz
  show d + 2 ≤ z.deep + (d + 1); omega
theorem top_under {x : ReN} {ls : List (List ReN)} (h : x.deep = 0) (hl : ∀ l ∈ ls, Top l) : Top (under x ls) := by
  refine ⟨x, _, rfl, h, fun y hy => ?_⟩
  obtain ⟨z, hz, rfl⟩ := List.mem_map.1 hy
  obtain ⟨l, hl', hz⟩ := List.mem_flatten.1 hz
  obtain ⟨t, r, rfl, h0, hr⟩ := hl l hl'
  rcases List.mem_cons.1 hz with rfl | hz
  · show 1 ≤ z.deep + 1; omega
  · have := hr z hz
    show 1 ≤ z.deep + 1; omega
theorem lift_under {d : Int} (x : ReN) (ls : List (List ReN)) : (under x ls).map (lift d) = lift d x :: (ls.flatten.map (lift (d + 1))) := by
  unfold under
  rw [List.map_cons, List.map_map]
  congr 1
  apply List.map_congr_left
  intro y _
  show ({ y with deep := y.deep + 1 + d } : ReN) = { y with deep := y.deep + (d + 1) }
  congr 1; omega

/-- What a list of nodes does ahead of others. -/
structure Good (d : Int) (l : List ReN) (a b : Int) : Prop where
  rows : ∀ rest, Shut d rest → rowsOk b rest → rowsOk a (l.map (lift d) ++ rest)
  step : ∀ p rest, 1 ≤ d → d ≤ p + 1 → Shut d rest → steps d rest → steps p (l.map (lift d) ++ rest)
  fin : ∀ rest, last a (l.map (lift d) ++ rest) = last b rest
theorem groups_cons (x : ReN) (l : List ReN) : groups (x :: l) = (if x.kind = 5 ∧ 0 < x.lo then 1 else 0) + groups l := by
  unfold groups
  by_cases h : x.kind = 5 ∧ 0 < x.lo
  · rw [if_pos h, List.filter_cons_of_pos (by simp [h.1, h.2])]; simp; omega
  · rw [if_neg h, List.filter_cons_of_neg (by simpa using h)]; simp
theorem groups_append (l m : List ReN) : groups (l ++ m) = groups l + groups m := by
  unfold groups; rw [List.filter_append, List.length_append]
theorem groups_down (l : List ReN) : groups (l.map ReN.down) = groups l := by
  induction l with
  | nil => rfl
  | cons x l ih => rw [List.map_cons, groups_cons, groups_cons, ih]; rfl

theorem steps_shut {d p : Int} {l : List ReN} (h : Shut d l) (hs : steps d l) (hd : d ≤ p + 1) : steps p l := by
  cases l with
  | nil => trivial
  | cons x r =>
    have h : x.deep ≤ d := h
    exact ⟨hs.1, by omega, hs.2.2⟩
/-- Lists of trees. -/
structure Goods (d : Int) (ls : List (List ReN)) (a b : Int) : Prop extends Good d ls.flatten a b where
  kid : ∀ rest, kids (d - 1) (ls.flatten.map (lift d) ++ rest) = ls.length + kids (d - 1) rest
structure Base (l : List ReN) (a b : Int) : Prop where
  top : Top l
  lo : 0 ≤ a
  le : a ≤ b
  grp : (groups l : Int) = b - a
structure Bases (ls : List (List ReN)) (a b : Int) : Prop where
  top : ∀ l ∈ ls, Top l
  lo : 0 ≤ a
  le : a ≤ b
  grp : (groups ls.flatten : Int) = b - a

theorem base_node {x : ReN} {ls : List (List ReN)} {a a' b : Int} (h0 : x.deep = 0) (h : Bases ls a' b) (hl : 0 ≤ a) (he : a' = a + (if x.kind = 5 ∧ 0 < x.lo then 1 else 0)) : Base (under x ls) a b := by
  have hg := h.grp
  have hle := h.le
  have e : (groups (under x ls) : Int) = (if x.kind = 5 ∧ 0 < x.lo then 1 else 0) + (groups ls.flatten : Int) := by
    unfold under
    rw [groups_cons, groups_down]
    by_cases hc : x.kind = 5 ∧ 0 < x.lo
    · rw [if_pos hc, if_pos hc]; push_cast; rfl
    · rw [if_neg hc, if_neg hc]; push_cast; rfl
  by_cases hc : x.kind = 5 ∧ 0 < x.lo
  · rw [if_pos hc] at he e
    exact ⟨top_under h0 h.top, hl, by omega, by omega⟩
  · rw [if_neg hc] at he e
    exact ⟨top_under h0 h.top, hl, by omega, by omega⟩
theorem base_one {l : List ReN} {a b : Int} (h : Base l a b) : Bases [l] a b := ⟨by intro m hm; simp at hm; subst hm; exact h.top, h.lo, h.le, by simpa using h.grp⟩
mutual
theorem wf_base : ∀ {l : List ReN} {a b : Int}, WF l a b → Base l a b
  | _, _, _, .leaf x a ha h0 hk => ⟨⟨x, [], rfl, h0, by simp⟩, ha, Int.le_refl _, by
      rw [groups_cons, if_neg (by rintro ⟨h1, _⟩; rcases hk with h | h | h <;> omega)]; simp [groups]⟩
  | _, _, _, .seq x ls a b h0 hk h => base_node h0 (wfs_base h) (wfs_base h).lo (by rw [if_neg (by rintro ⟨h1, _⟩; omega)]; omega)
  | _, _, _, .alt x ls a b h0 hk _ h => base_node h0 (wfs_base h) (wfs_base h).lo (by rw [if_neg (by rintro ⟨h1, _⟩; omega)]; omega)
  | _, _, _, .rep x l a b h0 hk _ h => base_node h0 (base_one (wf_base h)) (wf_base h).lo (by rw [if_neg (by rintro ⟨h1, _⟩; omega)]; omega)
  | _, _, _, .grp x l a b h0 hk hl h => base_node h0 (base_one (wf_base h)) (wf_base h).lo (by rw [if_neg (by rintro ⟨_, h1⟩; omega)]; omega)
  | _, _, _, .num x l a b ha h0 hk hl h => base_node h0 (base_one (wf_base h)) ha (by rw [if_pos ⟨hk, by omega⟩])
theorem wfs_base : ∀ {ls : List (List ReN)} {a b : Int}, WFs ls a b → Bases ls a b
  | _, _, _, .nil a ha => ⟨by simp, ha, Int.le_refl _, by simp [groups]⟩
  | _, _, _, .cons l ls a b c h hs => by
    have h1 := wf_base h
    have h2 := wfs_base hs
    refine ⟨?_, h1.lo, Int.le_trans h1.le h2.le, ?_⟩
    · intro m hm
      rcases List.mem_cons.1 hm with rfl | hm
      · exact h1.top
      · exact h2.top m hm
    · rw [List.flatten_cons, groups_append]; have := h1.grp; have := h2.grp; push_cast; omega
end

theorem good_node {x : ReN} {ls : List (List ReN)} {a a' b d : Int} (h0 : x.deep = 0) (h : Goods (d + 1) ls a' b) (hn : nodeOk (lift d x) ls.length a) (ha : after a x = a') : Good d (under x ls) a b where
  rows rest hs hr := by
    rw [lift_under]
    have hk := h.kid rest
    rw [show d + 1 - 1 = d by omega, kids_shut hs, Nat.add_zero] at hk
    refine ⟨?_, ?_⟩
    · show nodeOk (lift d x) (kids (x.deep + d) (ls.flatten.map (lift (d + 1)) ++ rest)) a
      rw [h0, Int.zero_add, hk]; exact hn
    · show rowsOk (after a x) _
      rw [ha]; exact h.rows rest (hs.mono (by omega)) hr
  step p rest h1 hp hs hst := by
    rw [lift_under]
    refine ⟨?_, ?_, ?_⟩
    · show 1 ≤ x.deep + d; omega
    · show x.deep + d ≤ p + 1; omega
    · show steps (x.deep + d) _
      rw [h0, Int.zero_add]
      exact h.step d rest (by omega) (Int.le_refl _) (hs.mono (by omega)) (steps_mono (by omega) hst)
  fin rest := by
    rw [lift_under]
    show last (after a x) _ = _
    rw [ha]; exact h.fin rest
theorem good_nil {d a : Int} : Goods d [] a a := ⟨⟨fun _ _ h => h, fun _ _ _ hd hs hst => steps_shut hs hst hd, fun _ => rfl⟩, fun _ => by simp⟩
theorem good_cons {d a b c : Int} {l : List ReN} {ls : List (List ReN)} (ht : Top l) (hts : ∀ m ∈ ls, Top m) (h : Good d l a b) (hs : Goods d ls b c) : Goods d (l :: ls) a c := by
  have e : ∀ rest, (l :: ls).flatten.map (lift d) ++ rest = l.map (lift d) ++ (ls.flatten.map (lift d) ++ rest) := fun rest => by rw [List.flatten_cons, List.map_append, List.append_assoc]
  have sh : ∀ rest, Shut d rest → Shut d (ls.flatten.map (lift d) ++ rest) := fun rest hr => by
    cases ls with
    | nil => exact hr
    | cons m ms =>
      obtain ⟨x, r, rfl, h0, _⟩ := hts m (by simp)
      show x.deep + d ≤ d; omega
  refine ⟨⟨fun rest h1 h2 => ?_, fun p rest h1 hp h2 h3 => ?_, fun rest => ?_⟩, fun rest => ?_⟩
  · rw [e]; exact h.rows _ (sh rest h1) (hs.rows rest h1 h2)
  · rw [e]; exact h.step p _ h1 hp (sh rest h2) (hs.step d rest h1 (by omega) h2 h3)
  · rw [e, h.fin, hs.fin]
  · rw [e]
    have := kids_top ht (d := d - 1) (ls.flatten.map (lift d) ++ rest)
    rw [show d - 1 + 1 = d by omega] at this
    rw [this, hs.kid]; simp; omega
mutual
theorem wf_good : ∀ {l : List ReN} {a b : Int}, WF l a b → ∀ {d : Int}, 0 ≤ d → Good d l a b
  | _, _, _, .leaf x a ha h0 hk, d, hd => by
    have := good_node (x := x) (d := d) h0 (good_nil (d := d + 1) (a := a)) (a := a) ?_ ?_
    · simpa [under] using this
    · refine ⟨fun h => ?_, fun h => ?_, fun h => ?_, fun h => ?_⟩
      · have h : x.kind = 5 := h; rcases hk with h1 | h1 | h1 <;> omega
      · have h : x.kind = 6 := h; rcases hk with h1 | h1 | h1 <;> omega
      · have h : x.kind = 1 := h; rcases hk with h1 | h1 | h1 <;> omega
      · have h : x.kind = 2 := h
        rcases hk with h1 | h1 | h1
        · omega
        · omega
        · exact ⟨rfl, h1.2⟩
    · unfold after; rw [if_neg (by rcases hk with h1 | h1 | h1 <;> omega)]
  | _, _, _, .seq x ls a b h0 hk h, d, hd => good_node h0 (wfs_good h (by omega)) ⟨fun h => by have h : x.kind = 5 := h; omega, fun h => by have h : x.kind = 6 := h; omega, fun h => by have h : x.kind = 1 := h; omega, fun h => by have h : x.kind = 2 := h; omega⟩ (by unfold after; rw [if_neg (by omega)])
  | _, _, _, .alt x ls a b h0 hk hl h, d, hd => good_node h0 (wfs_good h (by omega)) ⟨fun h => by have h : x.kind = 5 := h; omega, fun h => by have h : x.kind = 6 := h; omega, fun _ => hl, fun h => by have h : x.kind = 2 := h; omega⟩ (by unfold after; rw [if_neg (by omega)])
  | _, _, _, .rep x l a b h0 hk hb h, d, hd => good_node h0 (good_cons (wf_base h).top (by simp) (wf_good h (by omega)) good_nil) ⟨fun h => by have h : x.kind = 5 := h; omega, fun _ => ⟨rfl, hb⟩, fun h => by have h : x.kind = 1 := h; omega, fun h => by have h : x.kind = 2 := h; omega⟩ (by unfold after; rw [if_neg (by omega)])
  | _, _, _, .grp x l a b h0 hk hl h, d, hd => good_node h0 (good_cons (wf_base h).top (by simp) (wf_good h (by omega)) good_nil) ⟨fun _ => ⟨rfl, fun h1 => by have h1 : 0 < x.lo := h1; omega⟩, fun h => by have h : x.kind = 6 := h; omega, fun h => by have h : x.kind = 1 := h; omega, fun h => by have h : x.kind = 2 := h; omega⟩ (by unfold after; rw [if_pos hk, hl]; have := (wf_base h).lo; omega)
  | _, _, _, .num x l a b ha h0 hk hl h, d, hd => good_node h0 (good_cons (wf_base h).top (by simp) (wf_good h (by omega)) good_nil) ⟨fun _ => ⟨rfl, fun _ => hl⟩, fun h => by have h : x.kind = 6 := h; omega, fun h => by have h : x.kind = 1 := h; omega, fun h => by have h : x.kind = 2 := h; omega⟩ (by unfold after; rw [if_pos hk, hl]; omega)
theorem wfs_good : ∀ {ls : List (List ReN)} {a b : Int}, WFs ls a b → ∀ {d : Int}, 0 ≤ d → Goods d ls a b
  | _, _, _, .nil _ _, _, _ => good_nil
  | _, _, _, .cons _ _ _ _ _ h hs, _, hd => good_cons (wf_base h).top (wfs_base hs).top (wf_good h hd) (wfs_good hs hd)
end

/-- A tree's list, as its statement reads it. -/
theorem wf_rows {l : List ReN} {b : Int} (h : WF l 0 b) : rowsOk 0 l ∧ last 0 l = (groups l : Int) ∧ ∃ x r, l = x :: r ∧ x.deep = 0 ∧ steps 0 r := by
  have hg := wf_good h (d := 0) (Int.le_refl _)
  have hb := wf_base h
  have hl : l.map (lift 0) = l := by
    have : lift 0 = id := by funext x; show ({ x with deep := x.deep + 0 } : ReN) = x; rw [Int.add_zero]
    rw [this, List.map_id]
  have h1 := hg.rows [] trivial trivial
  have h3 := hg.fin []
  rw [hl, List.append_nil] at h1 h3
  refine ⟨h1, ?_, ?_⟩
  · rw [h3]; show b = _; have := hb.grp; omega
  · have hg1 := wf_good h (d := 1) (by decide)
    obtain ⟨x, r, rfl, h0, hr⟩ := hb.top
    have h4 := hg1.step 0 [] (by decide) (by decide) trivial trivial
    rw [List.append_nil] at h4
    refine ⟨x, r, rfl, h0, ?_⟩
    have key : ∀ (r : List ReN) (p : Int), (∀ y ∈ r, 1 ≤ y.deep) → steps (p + 1) (r.map (lift 1)) → steps p r := by
      intro r
      induction r with
      | nil => intros; trivial
      | cons y r ih =>
        intro p hy hs
        obtain ⟨_, h6, h7⟩ := hs
        have h6 : y.deep + 1 ≤ p + 1 + 1 := h6
        exact ⟨hy y (by simp), by omega, ih y.deep (fun z hz => hy z (by simp [hz])) h7⟩
    have h5 := h4.2.2
    have e : (lift 1 x).deep = 0 + 1 := by show x.deep + 1 = _; omega
    rw [e] at h5
    exact key r 0 hr h5
end Go.Proofs.Ytfblkahjefdmaaa.RX
