/- Walk: parts of which one thing is another. -/
import Derived.Test.YtfblkahjefdmaaaDoorRaF
import Derived.Test.YtfblkahjefdmaaaDoorRbA
import Derived.Maps.AppendAt
namespace Go.Proofs.YtfblkahjefdmaaaDoor
open Go.RowKit

theorem flat5 : ∀ (css : List (List Value)), (∀ cs ∈ css, cs.length = 5) → css.flatten.length = css.length * 5 ∧ (∀ k i cs u, css[k]? = some cs → cs[i]? = some u → css.flatten[k * 5 + i]? = some u) ∧ ∀ j u, css.flatten[j]? = some u → ∃ k i cs, j = k * 5 + i ∧ i < 5 ∧ css[k]? = some cs ∧ cs[i]? = some u
  | [], _ => ⟨rfl, by intro k i cs u h; simp at h, by intro j u h; simp at h⟩
  | c :: r, h => by
    have hc := h c (by simp)
    obtain ⟨h1, h2, h3⟩ := flat5 r (fun cs hcs => h cs (by simp [hcs]))
    refine ⟨by rw [List.flatten_cons, List.length_append, h1, hc, List.length_cons]; omega, fun k i cs u hk hi => ?_, fun j u hj => ?_⟩
    · have hi5 : i < cs.length := (List.getElem?_eq_some_iff.1 hi).1
      rw [List.flatten_cons]
      cases k with
      | zero =>
        simp at hk
        subst hk
        rw [List.getElem?_append_left (by omega)]
        simpa using hi
      | succ k =>
        rw [List.getElem?_append_right (by omega)]
        have := h2 k i cs u (by simpa using hk) hi
        rw [← this]
        congr 1; omega
    · rw [List.flatten_cons] at hj
      rcases Nat.lt_or_ge j c.length with hlt | hge
      · rw [List.getElem?_append_left hlt] at hj
        exact ⟨0, j, c, by omega, by omega, rfl, hj⟩
      · rw [List.getElem?_append_right hge] at hj
        obtain ⟨k, i, cs, h4, h5, h6, h7⟩ := h3 _ u hj
        exact ⟨k + 1, i, cs, by omega, h5, by simpa using h6, h7⟩
theorem pick_list {α : Type} {n : Nat} {P : Nat → α → Prop} (h : ∀ k, k < n → ∃ x, P k x) : ∃ l : List α, l.length = n ∧ ∀ k x, l[k]? = some x → P k x := by
  induction n with
  | zero => exact ⟨[], rfl, by intro k x h; simp at h⟩
  | succ n ih =>
    obtain ⟨l, h1, h2⟩ := ih (fun k hk => h k (by omega))
    obtain ⟨x, hx⟩ := h n (by omega)
    refine ⟨l ++ [x], by simp [h1], fun k y hy => ?_⟩
    rcases Nat.lt_or_ge k l.length with hlt | hge
    · rw [List.getElem?_append_left hlt] at hy; exact h2 k y hy
    · rw [List.getElem?_append_right hge] at hy
      have hk : k - l.length = 0 := by
        rcases Nat.eq_zero_or_pos (k - l.length) with e | e
        · exact e
        · rw [List.getElem?_eq_none (by simp; omega)] at hy; cases hy
      rw [hk] at hy
      simp at hy
      subst hy
      have : k = n := by omega
      rw [this]; exact hx
/-- The rows of cells are these parts. -/
def FitC (w : World) (css : List (List Value)) (l : List FM.Form) : Prop := css.length = l.length ∧ ∀ (k : Nat) (cs : List Value) (f : FM.Form), css[k]? = some cs → l[k]? = some f → CFC w cs f
theorem FitC.ext {w w' : World} {css : List (List Value)} {l : List FM.Form} (h : FitC w css l) (hx : Ext w w') : FitC w' css l := ⟨h.1, fun k cs f h1 h2 => (h.2 k cs f h1 h2).ext hx⟩
theorem OwnB.slfC {B : Nat} {w : World} {v : Value} {css : List (List Value)} {l : List FM.Form} (h : OwnB 34 5 Raw B w v css) (hf : FitC w css l) : SlF w v l := by
  obtain ⟨A, c, hv, hl, hc, hn, ha⟩ := h.sl
  rw [hf.1] at hv hl
  refine ⟨A, c, hv, hl, hc, fun k x hx => ?_, hn⟩
  have hk : k < css.length := by rw [hf.1]; exact (List.getElem?_eq_some_iff.1 hx).1
  cases A with
  | none =>
    have := hn rfl
    rw [hf.1] at hk; omega
  | some ad =>
    obtain ⟨g, o, cur, rfl, _, h3, _, h5⟩ := ha ad rfl
    obtain ⟨cs, ⟨rfl, _⟩, h7⟩ := h5 k _ (List.getElem?_eq_getElem hk)
    exact ⟨g, o, rfl, _, hf.2 k _ x (List.getElem?_eq_getElem hk) hx, fun i u hu => (cell_of_row w g _ cur 34 (0, 0) h3).trans (h7 i u hu)⟩
theorem FitC.set {w : World} {css : List (List Value)} {l : List FM.Form} (h : FitC w css l) (k : Nat) {cs : List Value} {f : FM.Form} (hc : CFC w cs f) : FitC w (css.set k cs) (l.set k f) := by
  refine ⟨by simp [h.1], fun j c g h1 h2 => ?_⟩
  by_cases e : k = j
  · subst e
    have hk : k < css.length := by
      have := (List.getElem?_eq_some_iff.1 h1).1
      simpa using this
    rw [List.getElem?_set_self hk] at h1
    rw [List.getElem?_set_self (by rw [← h.1]; exact hk)] at h2
    injection h1 with h1
    injection h2 with h2
    subst h1 h2
    exact hc
  · rw [List.getElem?_set_ne e] at h1 h2
    exact h.2 j c g h1 h2
theorem FitC.snoc {w : World} {css : List (List Value)} {l : List FM.Form} (h : FitC w css l) {cs : List Value} {f : FM.Form} (hc : CFC w cs f) : FitC w (css ++ [cs]) (l ++ [f]) := by
  refine ⟨by simp [h.1], fun k c g h1 h2 => ?_⟩
  rcases Nat.lt_or_ge k css.length with hk | hk
  · rw [List.getElem?_append_left hk] at h1
    rw [List.getElem?_append_left (by rw [← h.1]; exact hk)] at h2
    exact h.2 k c g h1 h2
  · rw [List.getElem?_append_right hk] at h1
    rw [List.getElem?_append_right (by rw [← h.1]; exact hk)] at h2
    rw [← h.1] at h2
    have hk0 : k - css.length = 0 := by
      rcases Nat.eq_zero_or_pos (k - css.length) with e | e
      · exact e
      · rw [List.getElem?_eq_none (by simp; omega)] at h1; cases h1
    rw [hk0] at h1 h2
    simp at h1 h2
    subst h1 h2
    exact hc
theorem CFC.five {w : World} {cs : List Value} {f : FM.Form} (h : CFC w cs f) : cs.length = 5 ∧ ∀ u ∈ cs, u.oneCell' = true := by
  obtain ⟨A, c, A', c', rfl, -, -⟩ := h.slc2
  exact ⟨rfl, by simp [Value.oneCell']⟩
/-- append(nil, src...) of parts. -/
theorem app_forms {w : World} {ops : Array Oper} {rest : List Oper} {o : Oper} {a : Act} {Q : Exit → Act → World → Prop} (hgd : o.guard = none) (s x : Operand) (ho : o.op = .call { callee := .builtin .append, args := #[s, x], argTypes := #[32, 32] })
    (src : Value) (l : List FM.Form) (hs : a.eval s = .slice none 0 0) (hx : a.eval x = src) (hsrc : SlF w src l) (hn : l.length ≤ 1000000000)
    (h : ∀ v' w' css, OwnB 34 5 Raw w.heap.size w' v' css → FitC w css l → w.grownBy w' none → wpList Tryd.prog ops Q rest (a.put o.dst v') w') :
    wpList Tryd.prog ops Q (o :: rest) a w := by
  obtain ⟨i0, hi, hz0, hz1, hz2⟩ := info_parts info_form
  obtain ⟨A, c, rfl, hl, hc, hcell, hn0⟩ := id hsrc
  have hnil : OwnB 34 5 Raw w.heap.size w (.slice none 0 0) [] := OwnB.nil_
  cases A with
  | none =>
    obtain rfl := hn0 rfl
    obtain rfl : l = [] := List.eq_nil_of_length_eq_zero (by omega)
    refine wpList_append_own_none hgd s x 32 ho w.heap.size 34 i0 5 Tryd.underlying32 hi (.slice none 0 0) 0 [] hs (World.ownsRow_nil _ _ _ _) hx ?_
    exact h _ w [] hnil ⟨rfl, by intro k cs f h; simp at h⟩ (World.grownBy.refl _ _)
  | some ad =>
    obtain ⟨css, hcl, hcs⟩ := pick_list (n := l.length) (P := fun k cs => ∃ f, l[k]? = some f ∧ CFC w cs f ∧ ∀ (i : Nat) (u : Value), cs[i]? = some u → w.cell? (ad.add (k * 5 + i)) = some u) (fun k hk => by
      obtain ⟨b, o, hA, cs, h1, h2⟩ := hcell k _ (List.getElem?_eq_getElem hk)
      injection hA with hA
      subst hA
      exact ⟨cs, _, List.getElem?_eq_getElem hk, h1, fun i u hu => by rw [Go.WideShapes.add_plain, ← Nat.add_assoc]; exact h2 i u hu⟩)
    have h5 : ∀ cs ∈ css, cs.length = 5 := by
      intro cs hm
      obtain ⟨k, hk, rfl⟩ := List.mem_iff_getElem.1 hm
      obtain ⟨f, _, h1, _⟩ := hcs k _ (List.getElem?_eq_getElem hk)
      exact h1.five.1
    obtain ⟨hf1, hf2, hf3⟩ := flat5 css h5
    refine wpList_append_own_at w hgd s x _ ho w.heap.size 34 i0 _ 5 72 Tryd.underlying32 hi hz0 hz1 hz2 rfl (by decide) (.slice none 0 0) 0 [] hs (World.ownsRow_nil _ _ _ _) ad l.length c css.flatten hx (by rw [hf1, hcl]) ?_ ?_ (by unfold maxLen; omega) (by omega) (Nat.le_refl _) ?_
    · intro j u hj
      obtain ⟨k, i, cs, rfl, _, h6, h7⟩ := hf3 j u hj
      obtain ⟨f, _, _, h8⟩ := hcs k cs h6
      exact h8 i u h7
    · intro u hu
      obtain ⟨cs, hm, hu⟩ := List.mem_flatten.1 hu
      obtain ⟨k, hk, rfl⟩ := List.mem_iff_getElem.1 hm
      obtain ⟨f, _, h1, _⟩ := hcs k _ (List.getElem?_eq_getElem hk)
      exact h1.five.2 u hu
    · intro v' w' h1 h2 _ _
      refine h v' w' css ⟨css.flatten, ?_, fun k cs hk => ⟨cs, ⟨rfl, h5 cs (List.mem_of_getElem? hk)⟩, h5 cs (List.mem_of_getElem? hk), fun i u hu => hf2 k i cs u hk hu⟩⟩ ⟨hcl, fun k cs f hk hfk => ?_⟩ h2
      · rw [List.nil_append, Nat.zero_add, ← hcl] at h1; exact h1
      · obtain ⟨f', h3, h4, _⟩ := hcs k cs hk
        rw [hfk] at h3
        injection h3 with h3
        subst h3
        exact h4
/-- An own row of parts at a place: its cells; a cell of it may be written over. -/
theorem OwnB.atRaw {base : Nat} {w : World} {A : Option Addr} {n c : Nat} {css : List (List Value)} (h : OwnB 34 5 Raw base w (.slice A n c) css) {k : Nat} (hk : k < css.length) :
    ∃ g cur, A = some ⟨g, 0, none⟩ ∧ base ≤ g ∧ w.heap[g]? = some (.cells cur 34 (0, 0)) ∧ (∀ (i : Nat) (u : Value), css[k][i]? = some u → cur[k * 5 + i]? = some u) ∧
      ∀ (w' : World) (u : Value) (i : Nat), i < 5 → w'.heap[g]? = some (.cells (cur.setIfInBounds (k * 5 + i) u) 34 (0, 0)) → OwnB 34 5 Raw base w' (.slice A n c) (css.set k (css[k].set i u)) := by
  obtain ⟨flat, ⟨hl, hf⟩, h2⟩ := h
  rcases hf with ⟨hv, h0⟩ | ⟨g, cap, cur, hv, hb, hg, hnc, hcm, hcs, htk⟩
  · omega
  · injection hv with e1 e2 e3
    subst e1 e2 e3
    have hat : ∀ (j i : Nat) (cs : List Value) (u : Value), css[j]? = some cs → cs[i]? = some u → flat[j * 5 + i]? = some u := by
      intro j i cs u hj hu
      obtain ⟨ds, ⟨h3, h4⟩, _, h5⟩ := h2 j cs hj
      subst h3
      exact h5 i u hu
    have h5l : ∀ (j : Nat) (cs : List Value), css[j]? = some cs → cs.length = 5 := by
      intro j cs hj
      obtain ⟨ds, ⟨h3, h4⟩, _, _⟩ := h2 j cs hj
      exact h4
    refine ⟨g, cur, rfl, hb, hg, fun i u hu => ?_, fun w' u i hi hg' => ?_⟩
    · have h6 := hat k i _ u (List.getElem?_eq_getElem hk) hu
      rw [← htk, List.getElem?_take] at h6
      split at h6
      · simpa using h6
      · cases h6
    · refine ⟨flat.set (k * 5 + i) u, ⟨by rw [List.length_set, List.length_set]; exact hl, .inr ⟨g, c, _, by rw [List.length_set], hb, hg', by rw [List.length_set]; exact hnc, hcm, by rw [Array.size_setIfInBounds]; exact hcs, ?_⟩⟩, fun j x hx => ?_⟩
      · rw [List.length_set, Array.toList_setIfInBounds, List.take_set, htk]
      · by_cases e : k = j
        · subst e
          rw [List.getElem?_set_self hk] at hx
          injection hx with hx
          subst hx
          have h5 := h5l k _ (List.getElem?_eq_getElem hk)
          refine ⟨_, ⟨rfl, by simpa using h5⟩, by simpa using h5, fun m y hy => ?_⟩
          rcases Nat.lt_or_ge m 5 with hm | hm
          · by_cases him : i = m
            · subst him
              rw [List.getElem?_set_self (by omega)] at hy
              rw [List.getElem?_set_self (by rw [hl]; omega)]
              exact hy
            · rw [List.getElem?_set_ne him] at hy
              rw [List.getElem?_set_ne (by omega)]
              exact hat k m _ y (List.getElem?_eq_getElem hk) hy
          · rw [List.getElem?_eq_none (by rw [List.length_set]; omega)] at hy; cases hy
        · rw [List.getElem?_set_ne e] at hx
          have h5 := h5l j x hx
          refine ⟨x, ⟨rfl, h5⟩, h5, fun m y hy => ?_⟩
          have hm : m < 5 := by rw [← h5]; exact (List.getElem?_eq_some_iff.1 hy).1
          rw [List.getElem?_set_ne (by omega)]
          exact hat j m x y hx hy
end Go.Proofs.YtfblkahjefdmaaaDoor
