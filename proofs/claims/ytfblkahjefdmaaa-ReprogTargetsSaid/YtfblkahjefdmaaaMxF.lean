/- Plain law: what the program of a pattern is; what its tries find. No program in sight. -/
import Derived.Test.YtfblkahjefdmaaaMxM
namespace Go.Proofs.Ytfblkahjefdmaaa.PG
open RX (ReN)

/-- All instructions of a part are so. -/
def All (P : Inst → Prop) (p : Part) : Prop := ∀ x ∈ p.l, P x
/-- What holds of all that a tree's instructions are made of. -/
structure Gen (P : Inst → Prop) : Prop where
  moved : ∀ (k : Int) (x : Inst), P x → P (moved k x)
  split : ∀ x y : Int, P ⟨4, x, y, false, []⟩
  jump : ∀ x : Int, P ⟨5, x, 0, false, []⟩
  save : ∀ x : Int, 2 ≤ x → P ⟨3, x, 0, false, []⟩
  start : P ⟨1, 0, 0, false, []⟩
  end_ : P ⟨2, 0, 0, false, []⟩
  set : ∀ (neg : Bool) (set : List Int), set.length ≤ 1000 → P ⟨0, 0, 0, neg, set⟩
section
variable {P : Inst → Prop}
theorem all_nil (n : Nat) : All P ⟨[], n⟩ := by intro x hx; simp at hx
theorem rowL_all (hP : Gen P) : ∀ (ps : List Part) (out : Part), All P out → (∀ p ∈ ps, All P p) → All P (rowL out ps)
  | [], out, h, _ => h
  | p :: ps, out, h, hp => by
    rw [rowL]
    split
    · exact all_nil _
    · refine rowL_all hP ps _ (fun x hx => ?_) (fun q hq => hp q (by simp [hq]))
      rcases List.mem_append.1 hx with hx | hx
      · exact h x hx
      · obtain ⟨y, hy, rfl⟩ := List.mem_map.1 hx
        exact hP.moved _ _ (hp p (by simp) y hy)
theorem rowA (hP : Gen P) {ps : List Part} (h : ∀ p ∈ ps, All P p) : All P (row ps) := rowL_all hP ps _ (all_nil _) h
theorem oneA {x : Inst} (h : P x) : All P (one [x]) := by
  intro y hy
  simp [one] at hy
  subst hy
  exact h
theorem splitA (hP : Gen P) (far : Int) (lz : Bool) : All P (split far lz) := by
  unfold split; exact oneA (by split <;> exact hP.split _ _)
theorem jumpA (hP : Gen P) (far : Int) : All P (jump far) := oneA (hP.jump _)
theorem saveA (hP : Gen P) {x : Int} (h : 2 ≤ x) : All P (save x) := oneA (hP.save x h)
theorem eitherA (hP : Gen P) : ∀ (ps : List Part), (∀ p ∈ ps, All P p) → All P (either ps)
  | [], _ => all_nil _
  | [p], h => h p (by simp)
  | p :: q :: ps, h => by
    have h1 := eitherA hP (q :: ps) (fun x hx => h x (by simp at hx ⊢; right; exact hx))
    rw [either]
    refine rowA hP (fun x hx => ?_)
    simp at hx
    rcases hx with rfl | rfl | rfl | rfl
    · exact splitA hP _ _
    · exact h _ (by simp)
    · exact jumpA hP _
    · exact h1
theorem manyA (hP : Gen P) {p : Part} (h : All P p) (n : Nat) : All P (many p n) := by
  unfold many
  split
  · exact all_nil _
  · exact rowA hP (fun q hq => by rw [List.eq_of_mem_replicate hq]; exact h)
theorem maybeA (hP : Gen P) {p : Part} (h : All P p) (lz : Bool) : ∀ (n : Nat) (out : Part), All P out → All P (maybeL p lz n out)
  | 0, _, ho => ho
  | n + 1, out, ho => by
    rw [maybeL]
    refine maybeA hP h lz n _ (rowA hP (fun x hx => ?_))
    simp at hx
    rcases hx with rfl | rfl | rfl
    · exact splitA hP _ _
    · exact h
    · exact ho
theorem loopA (hP : Gen P) {p : Part} (h : All P p) (lz : Bool) : All P (loop p lz) := by
  refine rowA hP (fun x hx => ?_)
  simp at hx
  rcases hx with rfl | rfl | rfl
  · exact splitA hP _ _
  · exact h
  · exact jumpA hP _
theorem headA {ins : List Part} (h : ∀ p ∈ ins, All P p) : All P (ins.headD ⟨[], 0⟩) := by
  cases ins with
  | nil => exact all_nil _
  | cons p ps => exact h p (by simp)
theorem nodeA (hP : Gen P) {x : ReN} {ins : List Part} (hx : x.set.length ≤ 1000) (h : ∀ p ∈ ins, All P p) : All P (nodeP x ins) := by
  unfold nodeP
  split
  · exact rowA hP h
  · split
    · exact eitherA hP _ h
    · split
      · exact oneA (hP.set _ _ hx)
      · split
        · exact oneA hP.start
        · split
          · exact oneA hP.end_
          · split
            · split
              · refine rowA hP (fun y hy => ?_)
                simp at hy
                rcases hy with rfl | rfl | rfl
                · exact saveA hP (by omega)
                · simpa using headA h
                · exact saveA hP (by omega)
              · exact headA h
            · split
              · refine rowA hP (fun y hy => ?_)
                simp at hy
                rcases hy with rfl | rfl
                · exact manyA hP (by simpa using headA h) _
                · exact loopA hP (by simpa using headA h) _
              · refine rowA hP (fun y hy => ?_)
                simp at hy
                rcases hy with rfl | rfl
                · exact manyA hP (by simpa using headA h) _
                · exact maybeA hP (by simpa using headA h) _ _ _ (all_nil _)
theorem kids_mem : ∀ (n : Nat) (r : List ReN), ∀ k ∈ kids n r, ∀ y ∈ k, y ∈ r
  | 0, r, k, hk, _, _ => by cases r <;> simp [kids] at hk
  | n + 1, [], k, hk, _, _ => by simp [kids] at hk
  | n + 1, x :: r, k, hk, y, hy => by
    rw [kids] at hk
    rcases List.mem_cons.1 hk with rfl | hk
    · rcases List.mem_cons.1 hy with rfl | hy
      · simp
      · exact List.mem_cons_of_mem _ ((List.takeWhile_sublist _).subset hy)
    · exact List.mem_cons_of_mem _ ((List.dropWhile_sublist _).subset (kids_mem n _ k hk y hy))
theorem treeA (hP : Gen P) : ∀ (n : Nat) (l : List ReN), RX.Sms l → All P (tree n l)
  | 0, _, _ => all_nil _
  | _ + 1, [], _ => all_nil _
  | n + 1, x :: r, h => nodeA hP (h x (by simp)).1 (fun p hp => by
    obtain ⟨k, hk, rfl⟩ := List.mem_map.1 hp
    exact treeA hP n k (fun y hy => h y (List.mem_cons_of_mem _ (kids_mem _ _ k hk y hy))))
end
theorem moved_x {k : Int} {x : Inst} (h : x.op = 3) : (moved k x).x = x.x := by
  unfold moved
  rw [if_neg (by omega), if_neg (by omega)]
/-- Notes of groups alone; small sets. -/
theorem gen_sv : Gen (fun x => (x.op = 3 → 2 ≤ x.x) ∧ x.set.length ≤ 1000) :=
  ⟨fun k x h => ⟨fun ho => by rw [moved_op] at ho; rw [moved_x ho]; exact h.1 ho, by rw [moved_set]; exact h.2⟩, fun _ _ => ⟨fun h => by simp at h, by simp⟩, fun _ => ⟨fun h => by simp at h, by simp⟩, fun x h => ⟨fun _ => h, by simp⟩, ⟨fun h => by simp at h, by simp⟩, ⟨fun h => by simp at h, by simp⟩, fun _ _ h => ⟨fun h => by simp at h, h⟩⟩

/-- An instruction inside of a program with its last note at e. -/
def InM (g e : Nat) (i : Nat) (x : Inst) : Prop :=
  (x.op = 4 → 1 ≤ x.x ∧ x.x ≤ e ∧ 1 ≤ x.y ∧ x.y ≤ e ∧ (x.x = x.y → x.x = i + 1)) ∧ (x.op = 5 → 1 ≤ x.x ∧ x.x ≤ e) ∧ (x.op = 3 → 2 ≤ x.x ∧ x.x ≤ 2 * g + 1) ∧ (x.op = 0 → x.set ≠ [] ∧ x.set.length % 2 = 0) ∧ 0 ≤ x.op ∧ x.op ≤ 5
/-- A pattern's program. -/
structure Made (l : List Inst) (g e : Nat) : Prop where
  len : l.length = e + 2
  pos : 1 ≤ e
  le : e ≤ 298
  first : l[0]? = some ⟨3, 0, 0, false, []⟩
  note : l[e]? = some ⟨3, 1, 0, false, []⟩
  last : l[e + 1]? = some ⟨6, 0, 0, false, []⟩
  mid : ∀ i x, l[i]? = some x → 1 ≤ i → i < e → InM g e i x
theorem whole_made {l : List ReN} {g : Nat} (hsm : RX.Sms l) (hT : Ok g (tree l.length l)) (h : (whole l).n ≤ 300) : Made (whole l).l g ((tree l.length l).n + 1) ∧ (∀ x ∈ (whole l).l, x.set.length ≤ 1000) ∧ (whole l).n = (tree l.length l).n + 3 ∧ (whole l).l = ⟨3, 0, 0, false, []⟩ :: ((tree l.length l).l.map (moved 1) ++ [⟨3, 1, 0, false, []⟩, ⟨6, 0, 0, false, []⟩]) := by
  have hsv := treeA gen_sv l.length l hsm
  unfold whole at h ⊢
  generalize tree l.length l = T at hT hsv h ⊢
  have hf : ∀ p ∈ [save 0, T, save 1, one [⟨6, 0, 0, false, []⟩]], Fine p := by
    intro p hp
    simp at hp
    rcases hp with rfl | rfl | rfl | rfl
    · exact save_fine _
    · exact hT.1
    · exact save_fine _
    · exact one_fine (by simp)
  have htot : total [save 0, T, save 1, one [⟨6, 0, 0, false, []⟩]] = 1 + (T.n + (1 + (1 + 0))) := rfl
  have he := row_eq hf
  by_cases ht : total [save 0, T, save 1, one [⟨6, 0, 0, false, []⟩]] < 301
  · have h1 := he.1 ht
    have hTl : T.l.length = T.n := h1.2 T (by simp)
    have hl : (row [save 0, T, save 1, one [⟨6, 0, 0, false, []⟩]]).l = ⟨3, 0, 0, false, []⟩ :: (T.l.map (moved 1) ++ [⟨3, 1, 0, false, []⟩, ⟨6, 0, 0, false, []⟩]) := by
      rw [h1.1]
      simp [flat, save, one, moved]
    have hn : (row [save 0, T, save 1, one [⟨6, 0, 0, false, []⟩]]).n = T.n + 3 := by rw [h1.1]; show total _ = _; omega
    refine ⟨?_, ?_, hn, hl⟩
    rotate_left
    · rw [hl]
      intro x hx
      simp at hx
      rcases hx with rfl | ⟨y, hy, rfl⟩ | rfl | rfl
      · simp
      · rw [moved_set]; exact (hsv y hy).2
      · simp
      · simp
    rw [hl]
    refine ⟨by simp; omega, by omega, by omega, rfl, ?_, ?_, ?_⟩
    · rw [List.getElem?_cons_succ, List.getElem?_append_right (by simp; omega)]
      simp [hTl]
    · rw [List.getElem?_cons_succ, List.getElem?_append_right (by simp; omega)]
      simp [hTl]
    · intro i x hx h1 h2
      obtain ⟨j, rfl⟩ : ∃ j, i = j + 1 := ⟨i - 1, by omega⟩
      rw [List.getElem?_cons_succ, List.getElem?_append_left (by simp; omega), List.getElem?_map, Option.map_eq_some_iff] at hx
      obtain ⟨y, hy, rfl⟩ := hx
      obtain ⟨a1, a2, a3, a4, a5, a6⟩ := hT.2 j y hy
      have hs := (hsv y (List.mem_of_getElem? hy)).1
      refine ⟨fun ho => ?_, fun ho => ?_, fun ho => ?_, fun ho => ?_, by rw [moved_op]; exact a5, by rw [moved_op]; exact a6⟩
      · rw [moved_op] at ho
        have := a1 ho
        unfold moved
        rw [if_pos ho]
        simp only
        push_cast
        omega
      · rw [moved_op] at ho
        have := a2 ho
        unfold moved
        rw [if_neg (by omega), if_pos ho]
        simp only
        push_cast
        omega
      · rw [moved_op] at ho
        have := a3 ho
        have := hs ho
        unfold moved
        rw [if_neg (by omega), if_neg (by omega)]
        omega
      · rw [moved_op] at ho
        rw [moved_set]
        exact a4 ho
  · rw [he.2 (by omega)] at h
    have h : 301 ≤ 300 := h
    omega
/-- An instruction of a whole program. -/
structure InL (g n k : Nat) (x : Inst) : Prop where
  split : x.op = 4 → 1 ≤ x.x ∧ x.x < n ∧ 1 ≤ x.y ∧ x.y < n ∧ (x.x = x.y → x.x = k + 1)
  jump : x.op = 5 → 1 ≤ x.x ∧ x.x < n
  save : x.op = 3 → 0 ≤ x.x ∧ x.x ≤ 2 * g + 1
  set : x.op = 0 → 0 < x.set.length ∧ x.set.length % 2 = 0
theorem Made.all {l : List Inst} {g e : Nat} (h : Made l g e) {k : Nat} {x : Inst} (hx : l[k]? = some x) : InL g (e + 2) k x := by
  obtain ⟨hk, -⟩ := List.getElem?_eq_some_iff.1 hx
  have hlen := h.len
  rcases Nat.eq_zero_or_pos k with h0 | h0
  · subst h0
    rw [h.first] at hx
    obtain rfl := Option.some.inj hx
    exact ⟨fun h => by simp at h, fun h => by simp at h, fun _ => by simp; omega, fun h => by simp at h⟩
  rcases Nat.lt_or_ge k e with h1 | h1
  · obtain ⟨m4, m5, m3, m0, -, -⟩ := h.mid k x hx h0 h1
    refine ⟨fun h => ?_, fun h => ?_, fun h => ?_, fun h => ⟨List.length_pos_iff.2 (m0 h).1, (m0 h).2⟩⟩
    · have := m4 h; push_cast; omega
    · have := m5 h; push_cast; omega
    · have := m3 h; omega
  · rcases Nat.lt_or_ge e k with h2 | h2
    · have : k = e + 1 := by omega
      subst this
      rw [h.last] at hx
      obtain rfl := Option.some.inj hx
      exact ⟨fun h => by simp at h, fun h => by simp at h, fun h => by simp at h, fun h => by simp at h⟩
    · have : k = e := by omega
      subst this
      rw [h.note] at hx
      obtain rfl := Option.some.inj hx
      exact ⟨fun h => by simp at h, fun h => by simp at h, fun _ => by simp; omega, fun h => by simp at h⟩
/-- A pattern's program is made of its tree. -/
theorem compile_made {s : List Int} {l : List Inst} {p : Int} (h : compile s = (l, 0, p)) : ∃ (t : List ReN) (e : Nat), RX.parse s = (t, 0, 0) ∧ Made l (RX.groups t) e ∧ l = (whole t).l ∧ (whole t).n ≤ 300 ∧ p = 0 := by
  unfold compile at h
  rcases hp : RX.parse s with ⟨t, c, q⟩
  rw [hp] at h
  simp only at h
  by_cases hc : c = 0
  · subst hc
    rw [if_pos rfl] at h
    by_cases hn : 300 < (whole t).n
    · rw [if_pos hn] at h; injection h with _ h; injection h with h _; cases h
    · rw [if_neg hn] at h
      injection h with h1 h2
      injection h2 with _ h2
      obtain ⟨b, hw, -⟩ := RX.parse_wf hp
      have hb := RX.wf_base hw
      have hg : (RX.groups t : Int) = b := by have := hb.grp; omega
      have hok := tree_wf (g := RX.groups t) hw (Int.le_refl _) (by omega) 0 t.length (Nat.le_refl _)
      have hl0 : t.map (RX.lift 0) = t := by
        conv => rhs; rw [← List.map_id t]
        exact List.map_congr_left fun x _ => by unfold RX.lift; simp
      rw [hl0] at hok
      have hm := whole_made (RX.parse_sms hp) hok (by omega)
      have hq : q = 0 := RX.parse_at hp
      subst hq
      exact ⟨t, _, rfl, h1 ▸ hm.1, h1.symm, by omega, h2.symm⟩
  · rw [if_neg hc] at h
    injection h with _ h
    injection h with h _
    exact absurd h hc
theorem compile_bad {s : List Int} {l : List Inst} {c p : Int} (h : compile s = (l, c, p)) (hc : c ≠ 0) : l = [] := by
  unfold compile at h
  rcases hp : RX.parse s with ⟨t, c', q⟩
  rw [hp] at h
  simp only at h
  split at h
  · split at h
    · injection h with h _; exact h.symm
    · injection h with _ h; injection h with h _; exact absurd h.symm hc
  · injection h with h _; exact h.symm
end Go.Proofs.Ytfblkahjefdmaaa.PG
