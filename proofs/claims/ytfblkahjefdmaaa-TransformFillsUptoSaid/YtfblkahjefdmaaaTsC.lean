/- Words on memory: parts appended; how long the texts of parts are. -/
import Derived.Test.YtfblkahjefdmaaaTsB
import Derived.Maps.AppendAt
namespace Go.Proofs.Ytfblkahjefdmaaa
open Go.RowKit

theorem CF.cfc {B : Nat} {w : World} {cs : List Value} {f : FM.Form} (h : CF B w cs f) : CFC w cs f := by
  obtain ⟨vt, ve, h1, h2, h3⟩ := h
  exact ⟨vt, ve, h1, h2.slc, h3.slc⟩
theorem SlB.slf {B B' : Nat} {w : World} {v : Value} {l : List FM.Form} (h : SlB 82 5 (CF B) B' w v l) : SlF w v l := by
  obtain ⟨A, c, rfl, hl, hc, hn, ha⟩ := h
  refine ⟨A, c, rfl, hl, hc, fun k x hx => ?_, hn⟩
  cases A with
  | none =>
    have := hn rfl
    rw [List.getElem?_eq_none (by omega)] at hx; cases hx
  | some ad =>
    obtain ⟨g, o, cur, rfl, _, h3, _, h5⟩ := ha ad rfl
    obtain ⟨cs, h6, h7⟩ := h5 k x hx
    exact ⟨g, o, rfl, cs, h6.cfc, fun i u hu => (cell_of_row w g _ cur 82 (0, 0) h3).trans (h7 i u hu)⟩
theorem flat5 : ∀ (css : List (List Value)), (∀ cs ∈ css, cs.length = 5) → css.flatten.length = css.length * 5 ∧ (∀ k i cs u, css[k]? = some cs → cs[i]? = some u → css.flatten[k * 5 + i]? = some u) ∧ ∀ j u, css.flatten[j]? = some u → ∃ k i cs, j = k * 5 + i ∧ i < 5 ∧ css[k]? = some cs ∧ cs[i]? = some u
  | [], _ => ⟨rfl, by intro k i cs u h; simp at h, by intro j u h; simp at h⟩
  | c :: r, h => by
    have hc := h c (by simp)
    obtain ⟨h1, h2, h3⟩ := flat5 r (fun cs hcs => h cs (by simp [hcs]))
    refine ⟨by rw [List.flatten_cons, List.length_append, h1, hc, List.length_cons]; omega, fun k i cs u hk hi => ?_, fun j u hj => ?_⟩
    · have hi5 : i < cs.length := (List.getElem?_eq_some_iff.1 hi).1
      rw [List.flatten_cons]
      cases k with
      | zero =>
        simp at hk
        subst hk
        rw [List.getElem?_append_left (by omega)]
        simpa using hi
      | succ k =>
        rw [List.getElem?_append_right (by omega)]
        have := h2 k i cs u (by simpa using hk) hi
        rw [← this]
        congr 1; omega
    · rw [List.flatten_cons] at hj
      rcases Nat.lt_or_ge j c.length with hlt | hge
      · rw [List.getElem?_append_left hlt] at hj
        exact ⟨0, j, c, by omega, by omega, rfl, hj⟩
      · rw [List.getElem?_append_right hge] at hj
        obtain ⟨k, i, cs, h4, h5, h6, h7⟩ := h3 _ u hj
        exact ⟨k + 1, i, cs, by omega, h5, by simpa using h6, h7⟩
theorem pick_list {α : Type} {n : Nat} {P : Nat → α → Prop} (h : ∀ k, k < n → ∃ x, P k x) : ∃ l : List α, l.length = n ∧ ∀ k x, l[k]? = some x → P k x := by
  induction n with
  | zero => exact ⟨[], rfl, by intro k x h; simp at h⟩
  | succ n ih =>
    obtain ⟨l, h1, h2⟩ := ih (fun k hk => h k (by omega))
    obtain ⟨x, hx⟩ := h n (by omega)
    refine ⟨l ++ [x], by simp [h1], fun k y hy => ?_⟩
    rcases Nat.lt_or_ge k l.length with hlt | hge
    · rw [List.getElem?_append_left hlt] at hy; exact h2 k y hy
    · rw [List.getElem?_append_right hge] at hy
      have hk : k - l.length = 0 := by
        rcases Nat.eq_zero_or_pos (k - l.length) with e | e
        · exact e
        · rw [List.getElem?_eq_none (by simp; omega)] at hy; cases hy
      rw [hk] at hy
      simp at hy
      subst hy
      have : k = n := by omega
      rw [this]; exact hx
/-- The rows of cells are these parts. -/
def FitC (w : World) (css : List (List Value)) (l : List FM.Form) : Prop := css.length = l.length ∧ ∀ (k : Nat) (cs : List Value) (f : FM.Form), css[k]? = some cs → l[k]? = some f → CFC w cs f
theorem FitC.ext {w w' : World} {css : List (List Value)} {l : List FM.Form} (h : FitC w css l) (hx : Ext w w') : FitC w' css l := ⟨h.1, fun k cs f h1 h2 => (h.2 k cs f h1 h2).ext hx⟩
theorem OwnB.slfC {B : Nat} {w : World} {v : Value} {css : List (List Value)} {l : List FM.Form} (h : OwnB 82 5 Raw B w v css) (hf : FitC w css l) : SlF w v l := by
  obtain ⟨A, c, hv, hl, hc, hn, ha⟩ := h.sl
  rw [hf.1] at hv hl
  refine ⟨A, c, hv, hl, hc, fun k x hx => ?_, hn⟩
  have hk : k < css.length := by rw [hf.1]; exact (List.getElem?_eq_some_iff.1 hx).1
  cases A with
  | none =>
    have := hn rfl
    rw [hf.1] at hk; omega
  | some ad =>
    obtain ⟨g, o, cur, rfl, _, h3, _, h5⟩ := ha ad rfl
    obtain ⟨cs, ⟨rfl, _⟩, h7⟩ := h5 k _ (List.getElem?_eq_getElem hk)
    exact ⟨g, o, rfl, _, hf.2 k _ x (List.getElem?_eq_getElem hk) hx, fun i u hu => (cell_of_row w g _ cur 82 (0, 0) h3).trans (h7 i u hu)⟩
theorem CFC.five {w : World} {cs : List Value} {f : FM.Form} (h : CFC w cs f) : cs.length = 5 ∧ ∀ u ∈ cs, u.oneCell' = true := by
  obtain ⟨A, c, A', c', rfl, -, -⟩ := h.slc2
  exact ⟨rfl, by simp [Value.oneCell']⟩
/-- append(v, src...) of parts, to an own row. -/
theorem app_formsO {w : World} {ops : Array Oper} {rest : List Oper} {o : Oper} {a : Act} {Q : Exit → Act → World → Prop} (hgd : o.guard = none) (s x : Operand) (ho : o.op = .call { callee := .builtin .append, args := #[s, x], argTypes := #[70, 70] })
    (B : Nat) (v src : Value) (css0 : List (List Value)) (l : List FM.Form) (hown : OwnB 82 5 Raw B w v css0) (hs : a.eval s = v) (hx : a.eval x = src) {w0 : World} (hx0 : Ext w0 w) (hsrc : SlF w0 src l) (hn : css0.length + l.length ≤ 1000000000) (hB : B ≤ w.heap.size)
    (h : ∀ v' w' css, OwnB 82 5 Raw B w' v' (css0 ++ css) → FitC w0 css l → w.grownBy w' v.ownBlock → wpList Try.prog ops Q rest (a.put o.dst v') w') :
    wpList Try.prog ops Q (o :: rest) a w := by
  obtain ⟨i0, hi, hz0, hz1, hz2⟩ := info_parts info_form
  obtain ⟨A, c, rfl, hl, hc, hcell, hn0⟩ := id hsrc
  obtain ⟨flat, hrow, hf0⟩ := id hown
  cases A with
  | none =>
    obtain rfl := hn0 rfl
    obtain rfl : l = [] := List.eq_nil_of_length_eq_zero (by omega)
    refine wpList_append_own_none hgd s x 70 ho B 82 i0 5 Try.underlying70 hi v css0.length flat hs hrow hx ?_
    exact h _ w [] (by rw [List.append_nil]; exact hown) ⟨rfl, by intro k cs f h; simp at h⟩ (World.grownBy.refl _ _)
  | some ad =>
    obtain ⟨css, hcl, hcs⟩ := pick_list (n := l.length) (P := fun k cs => ∃ f, l[k]? = some f ∧ CFC w0 cs f ∧ ∀ (i : Nat) (u : Value), cs[i]? = some u → w.cell? (ad.add (k * 5 + i)) = some u) (fun k hk => by
      obtain ⟨b, o, hA, cs, h1, h2⟩ := hcell k _ (List.getElem?_eq_getElem hk)
      injection hA with hA
      subst hA
      exact ⟨cs, _, List.getElem?_eq_getElem hk, h1, fun i u hu => by rw [Go.WideShapes.add_plain, ← Nat.add_assoc]; exact hx0.cell (h2 i u hu)⟩)
    have h5 : ∀ cs ∈ css, cs.length = 5 := by
      intro cs hm
      obtain ⟨k, hk, rfl⟩ := List.mem_iff_getElem.1 hm
      obtain ⟨f, _, h1, _⟩ := hcs k _ (List.getElem?_eq_getElem hk)
      exact h1.five.1
    obtain ⟨hf1, hf2, hf3⟩ := flat5 css h5
    refine wpList_append_own_at w hgd s x _ ho B 82 i0 _ 5 72 Try.underlying70 hi hz0 hz1 hz2 rfl (by decide) v css0.length flat hs hrow ad l.length c css.flatten hx (by rw [hf1, hcl]) ?_ ?_ (by unfold maxLen; omega) (by omega) hB ?_
    · intro j u hj
      obtain ⟨k, i, cs, rfl, _, h6, h7⟩ := hf3 j u hj
      obtain ⟨f, _, _, h8⟩ := hcs k cs h6
      exact h8 i u h7
    · intro u hu
      obtain ⟨cs, hm, hu⟩ := List.mem_flatten.1 hu
      obtain ⟨k, hk, rfl⟩ := List.mem_iff_getElem.1 hm
      obtain ⟨f, _, h1, _⟩ := hcs k _ (List.getElem?_eq_getElem hk)
      exact h1.five.2 u hu
    · intro v' w' h1 h2 _ _
      refine h v' w' css ⟨flat ++ css.flatten, ?_, fun k cs hk => ?_⟩ ⟨hcl, fun k cs f hk hfk => ?_⟩ h2
      · rw [List.length_append, hcl]; exact h1
      · have hfl : flat.length = css0.length * 5 := hrow.1
        rcases Nat.lt_or_ge k css0.length with hk0 | hk0
        · rw [List.getElem?_append_left hk0] at hk
          obtain ⟨cs', h3, h4, h6⟩ := hf0 k cs hk
          refine ⟨cs', h3, h4, fun i u hu => ?_⟩
          have hi : i < cs'.length := (List.getElem?_eq_some_iff.1 hu).1
          rw [List.getElem?_append_left (by omega)]
          exact h6 i u hu
        · rw [List.getElem?_append_right hk0] at hk
          refine ⟨cs, ⟨rfl, h5 cs (List.mem_of_getElem? hk)⟩, h5 cs (List.mem_of_getElem? hk), fun i u hu => ?_⟩
          rw [List.getElem?_append_right (by omega), hfl]
          have h8 := hf2 _ i cs u hk hu
          have e : k * 5 + i - css0.length * 5 = (k - css0.length) * 5 + i := by omega
          rw [e]
          exact h8
      · obtain ⟨f', h3, h4, _⟩ := hcs k cs hk
        rw [hfk] at h3
        injection h3 with h3
        subst h3
        exact h4
theorem FitC.app {w : World} {c1 c2 : List (List Value)} {l1 l2 : List FM.Form} (h1 : FitC w c1 l1) (h2 : FitC w c2 l2) : FitC w (c1 ++ c2) (l1 ++ l2) := by
  refine ⟨by rw [List.length_append, List.length_append, h1.1, h2.1], fun k cs f hk hf => ?_⟩
  have e := h1.1
  rcases Nat.lt_or_ge k c1.length with hlt | hge
  · rw [List.getElem?_append_left hlt] at hk
    rw [List.getElem?_append_left (by omega)] at hf
    exact h1.2 k cs f hk hf
  · rw [List.getElem?_append_right hge] at hk
    rw [List.getElem?_append_right (by omega), ← e] at hf
    exact h2.2 _ cs f hk hf
namespace FM
theorem total_mem : ∀ {l : List Form} {f : Form}, f ∈ l → f.text.length + f.els.length ≤ total l
  | [], _, h => by simp at h
  | g :: l, f, h => by
    have e : total (g :: l) = 2 * g.text.length + 2 * g.els.length + (if g.kind = 0 then 0 else 17) + total l := rfl
    rcases List.mem_cons.1 h with rfl | h
    · omega
    · have := total_mem h
      omega
theorem may_parts {a b : List Form} (h : may (a ++ b) = true) : may a = true ∧ may b = true := by
  unfold may at h ⊢
  rw [mayR_append, Bool.and_eq_true] at h
  refine ⟨h.1, ?_⟩
  have h2 := h.2
  cases b with
  | nil => rfl
  | cons f r =>
    unfold mayR at h2 ⊢
    simp only [Bool.and_eq_true, Bool.false_and, Bool.not_false] at h2 ⊢
    simp_all
end FM
theorem scanAt_small {s : List Int} {a : Int} {l : List FM.Form} {j : Nat} (h : scanAt s a = some (l, j)) : l.length ≤ 2 * s.length + 1 ∧ ∀ f ∈ l, f.text.length ≤ 10 * s.length ∧ f.els.length ≤ 10 * s.length := by
  unfold scanAt at h
  split at h
  · rename_i hc
    unfold scanK at h
    have h1 := FM.scan_count _ _ _ _ _ _ _ h
    have h2 := FM.scan_total _ _ _ _ _ _ _ h (by
      rw [List.all_eq_true]
      intro x hx
      exact List.all_eq_true.1 hc.2.2 x (List.mem_of_mem_drop hx))
    rw [List.length_drop] at h1 h2
    simp only [List.length_nil] at h1 h2
    have h3 : FM.total [] = 0 := rfl
    refine ⟨by omega, fun f hf => ?_⟩
    have := FM.total_mem hf
    omega
  · cases h
namespace TR
theorem part_len {f : FM.Form} {G : Int → List Int} {M : Nat} (h1 : f.text.length ≤ M) (h2 : f.els.length ≤ M) (h3 : (G f.group).length ≤ M) : (part f G).length ≤ M := by
  unfold part partL
  have := caseP_len f.cas (G f.group)
  repeat' split
  all_goals first | omega | simp
theorem fill_len {G : Int → List Int} {M : Nat} (hG : ∀ k, (G k).length ≤ M) : ∀ {l : List FM.Form}, (∀ f ∈ l, f.text.length ≤ M ∧ f.els.length ≤ M) → (fillL l G).length ≤ l.length * M
  | [], _ => by simp [fillL]
  | f :: l, h => by
    have ih := fill_len hG (l := l) (fun g hg => h g (List.mem_cons_of_mem _ hg))
    have e : fillL (f :: l) G = part f G ++ fillL l G := by simp [fillL]
    have hf := h f (by simp)
    have := part_len (G := G) hf.1 hf.2 (hG _)
    rw [e, List.length_append, List.length_cons, Nat.add_mul, Nat.one_mul]
    omega
end TR
end Go.Proofs.Ytfblkahjefdmaaa
