/- Plain law: the program of a tree is well made. No program in sight. -/
import Derived.Test.YtfblkahjefdmaaaPgP
namespace Go.Proofs.Ytfblkahjefdmaaa.PG
open RX (ReN WF WFs Top under lift)

theorem kids_nil : ∀ n, kids n [] = []
  | 0 => rfl
  | _ + 1 => rfl
theorem takeWhile_all {α : Type} {p : α → Bool} : ∀ {a b : List α}, (∀ x ∈ a, p x = true) → (∀ x r, b = x :: r → p x = false) → (a ++ b).takeWhile p = a ∧ (a ++ b).dropWhile p = b
  | [], [], _, _ => ⟨rfl, rfl⟩
  | [], x :: r, _, h => by
    have := h x r rfl
    exact ⟨by simp [this], by simp [this]⟩
  | y :: a, b, h1, h2 => by
    have hy := h1 y (by simp)
    have ih := takeWhile_all (a := a) (b := b) (fun x hx => h1 x (by simp [hx])) h2
    exact ⟨by simp [hy, ih.1], by simp [hy, ih.2]⟩
/-- The trees right in a tree are those that it was made of. -/
theorem kids_flat (e : Int) : ∀ (ls : List (List ReN)) (n : Nat), (∀ l ∈ ls, Top l) → (ls.flatten.map (lift e)).length ≤ n → kids n (ls.flatten.map (lift e)) = ls.map (List.map (lift e))
  | [], n, _, _ => kids_nil n
  | l :: ls, n, ht, hn => by
    obtain ⟨t, r, rfl, h0, hr⟩ := ht l (by simp)
    have hl : (((t :: r) :: ls).flatten.map (lift e)) = lift e t :: (r.map (lift e) ++ ls.flatten.map (lift e)) := by simp
    rw [hl] at hn ⊢
    cases n with
    | zero => simp at hn
    | succ n =>
      have hw := takeWhile_all (p := fun y : ReN => decide ((lift e t).deep < y.deep)) (a := r.map (lift e)) (b := ls.flatten.map (lift e)) (fun x hx => by
        obtain ⟨y, hy, rfl⟩ := List.mem_map.1 hx
        have := hr y hy
        exact decide_eq_true (by show t.deep + e < y.deep + e; omega)) (fun x s hx => by
        cases ls with
        | nil => simp at hx
        | cons m ls =>
          obtain ⟨u, q, rfl, hu, -⟩ := ht m (by simp)
          simp at hx
          rw [← hx.1]
          exact decide_eq_false (by show ¬ t.deep + e < u.deep + e; omega))
      rw [kids, hw.1, hw.2, kids_flat e ls n (fun m hm => ht m (by simp [hm])) (by simp at hn ⊢; omega)]
      simp
theorem tree_under {x : ReN} {ls : List (List ReN)} {e : Int} {n : Nat} (ht : ∀ l ∈ ls, Top l) : tree (n + 1) ((under x ls).map (lift e)) = nodeP (lift e x) (ls.map fun l => tree n (l.map (lift (e + 1)))) := by
  rw [RX.lift_under, tree, kids_flat (e + 1) ls _ ht (Nat.le_refl _), List.map_map]
  rfl
theorem under_len {x : ReN} {ls : List (List ReN)} {l : List ReN} (h : l ∈ ls) : l.length + 1 ≤ (under x ls).length := by
  unfold under
  rw [List.length_cons, List.length_map]
  have : l.length ≤ ls.flatten.length := by
    induction ls with
    | nil => simp at h
    | cons m ls ih =>
      rw [List.flatten_cons, List.length_append]
      rcases List.mem_cons.1 h with rfl | h
      · omega
      · have := ih h; omega
  omega
theorem one_ok {g : Nat} {x : Inst} (h : InOk g 1 0 x) : Ok g (one [x]) := by
  refine ⟨one_fine (by simp), fun i y hy => ?_⟩
  match i, hy with
  | 0, hy => simp [one] at hy; subst hy; exact h
theorem leaf_ok {g : Nat} {op : Int} (h4 : op ≠ 4) (h5 : op ≠ 5) (h3 : op ≠ 3) (h0 : op ≠ 0) (hr : 0 ≤ op ∧ op ≤ 5) : Ok g (one [⟨op, 0, 0, false, []⟩]) :=
  one_ok ⟨fun h => absurd h h4, fun h => absurd h h5, fun h => absurd h h3, fun h => absurd h h0, hr.1, hr.2⟩
theorem set_ok {g : Nat} {neg : Bool} {s : List Int} (hs : 0 < s.length) (h2 : s.length % 2 = 0) : Ok g (one [⟨0, 0, 0, neg, s⟩]) :=
  one_ok ⟨fun h => absurd h (by simp), fun h => absurd h (by simp), fun h => absurd h (by simp), fun _ => ⟨List.ne_nil_of_length_pos hs, h2⟩, by simp, by simp⟩
theorem save_ok {g : Nat} {x : Int} (h0 : 0 ≤ x) (h1 : x ≤ 2 * g + 1) : Ok g (save x) :=
  one_ok ⟨fun h => absurd h (by simp), fun h => absurd h (by simp), fun _ => ⟨h0, h1⟩, fun h => absurd h (by simp), by simp, by simp⟩
mutual
theorem tree_wf {g : Nat} : ∀ {l : List ReN} {a b : Int}, WF l a b → 0 ≤ a → b ≤ g → ∀ (e : Int) (n : Nat), l.length ≤ n → Ok g (tree n (l.map (lift e)))
  | _, _, _, .leaf x a h0 hd hk, _, _, e, n, hn => by
    cases n with
    | zero => simp at hn
    | succ n =>
      show Ok g (nodeP (lift e x) ((kids 0 []).map (tree n)))
      unfold nodeP
      have hkind : (lift e x).kind = x.kind := rfl
      rw [hkind]
      rcases hk with h | h | ⟨h, hs, h2⟩
      · rw [if_neg (by omega), if_neg (by omega), if_neg (by omega), if_pos h]
        exact leaf_ok (by decide) (by decide) (by decide) (by decide) (by decide)
      · rw [if_neg (by omega), if_neg (by omega), if_neg (by omega), if_neg (by omega), if_pos h]
        exact leaf_ok (by decide) (by decide) (by decide) (by decide) (by decide)
      · rw [if_neg (by omega), if_neg (by omega), if_pos h]
        exact set_ok hs h2
  | _, _, _, .seq x ls a b hd hk hw, h0, hb, e, n, hn => by
    have ht := fun l hl => (RX.wfs_base hw).top l hl
    cases n with
    | zero => simp [under] at hn
    | succ n =>
      rw [tree_under ht]
      unfold nodeP
      rw [if_pos (show (lift e x).kind = 0 from hk)]
      refine row_all (fun p hp => ?_)
      obtain ⟨l, hl, rfl⟩ := List.mem_map.1 hp
      exact trees_wf hw h0 hb (e + 1) n (fun m hm => by have := under_len (x := x) hm; omega) l hl
  | _, _, _, .alt x ls a b hd hk h2 hw, h0, hb, e, n, hn => by
    have ht := fun l hl => (RX.wfs_base hw).top l hl
    cases n with
    | zero => simp [under] at hn
    | succ n =>
      rw [tree_under ht]
      unfold nodeP
      rw [if_neg (show ¬ (lift e x).kind = 0 by show ¬ x.kind = 0; omega), if_pos (show (lift e x).kind = 1 from hk)]
      refine either_ok _ (fun p hp => ?_)
      obtain ⟨l, hl, rfl⟩ := List.mem_map.1 hp
      exact trees_wf hw h0 hb (e + 1) n (fun m hm => by have := under_len (x := x) hm; omega) l hl
  | _, _, _, .rep x l a b hd hk hlh hw, h0, hb, e, n, hn => by
    have ht : ∀ m ∈ [l], Top m := fun m hm => by simp at hm; subst hm; exact (RX.wf_base hw).top
    cases n with
    | zero => simp [under] at hn
    | succ n =>
      rw [tree_under ht]
      have hok := tree_wf hw h0 hb (e + 1) n (by have := under_len (x := x) (ls := [l]) (l := l) (by simp); omega)
      have hkind : (lift e x).kind = 6 := hk
      unfold nodeP
      rw [if_neg (by omega), if_neg (by omega), if_neg (by omega), if_neg (by omega), if_neg (by omega), if_neg (by omega)]
      simp only [List.map_cons, List.map_nil, List.headD_cons]
      split
      · exact row_all (fun p hp => by
          simp at hp
          rcases hp with rfl | rfl
          · exact many_ok hok _
          · exact loop_ok hok _)
      · exact row_all (fun p hp => by
          simp at hp
          rcases hp with rfl | rfl
          · exact many_ok hok _
          · exact maybeL_ok hok _ _ _ nil_ok)
  | _, _, _, .grp x l a b hd hk hlo hw, h0, hb, e, n, hn => by
    have ht : ∀ m ∈ [l], Top m := fun m hm => by simp at hm; subst hm; exact (RX.wf_base hw).top
    cases n with
    | zero => simp [under] at hn
    | succ n =>
      rw [tree_under ht]
      have hok := tree_wf hw h0 hb (e + 1) n (by have := under_len (x := x) (ls := [l]) (l := l) (by simp); omega)
      have hkind : (lift e x).kind = 5 := hk
      have hlo2 : (lift e x).lo = 0 := hlo
      unfold nodeP
      rw [if_neg (by omega), if_neg (by omega), if_neg (by omega), if_neg (by omega), if_neg (by omega), if_pos hkind, if_neg (by omega)]
      exact hok
  | _, _, _, .num x l a b h1 hd hk hlo hw, h0, hb, e, n, hn => by
    have ht : ∀ m ∈ [l], Top m := fun m hm => by simp at hm; subst hm; exact (RX.wf_base hw).top
    have hle := (RX.wf_base hw).le
    cases n with
    | zero => simp [under] at hn
    | succ n =>
      rw [tree_under ht]
      have hok := tree_wf hw (by omega) hb (e + 1) n (by have := under_len (x := x) (ls := [l]) (l := l) (by simp); omega)
      have hkind : (lift e x).kind = 5 := hk
      have hlo2 : (lift e x).lo = a + 1 := hlo
      unfold nodeP
      rw [if_neg (by omega), if_neg (by omega), if_neg (by omega), if_neg (by omega), if_neg (by omega), if_pos hkind, if_pos (by omega)]
      refine row_all (fun p hp => ?_)
      simp at hp
      rcases hp with rfl | rfl | rfl
      · exact save_ok (by omega) (by omega)
      · exact hok
      · exact save_ok (by omega) (by omega)
theorem trees_wf {g : Nat} : ∀ {ls : List (List ReN)} {a b : Int}, WFs ls a b → 0 ≤ a → b ≤ g → ∀ (e : Int) (n : Nat), (∀ l ∈ ls, l.length ≤ n) → ∀ l ∈ ls, Ok g (tree n (l.map (lift e)))
  | _, _, _, .nil a h0, _, _, _, _, _, l, hl => by simp at hl
  | _, _, _, .cons m ls a b c hw hs, h0, hb, e, n, hn, l, hl => by
    have h1 := (RX.wf_base hw).le
    have h2 := (RX.wfs_base hs).le
    rcases List.mem_cons.1 hl with hm | hl
    · rw [hm]
      exact tree_wf hw h0 (by omega) e n (hn _ (by simp))
    · exact trees_wf hs (by omega) hb e n (fun q hq => hn q (by simp [hq])) l hl
end
end Go.Proofs.Ytfblkahjefdmaaa.PG
