/- Walk: tree of package reprog, every level. -/
import Derived.Test.YtfblkahjefdmaaaPgY
import Derived.Test.YtfblkahjefdmaaaPgF
namespace Go.Proofs.Ytfblkahjefdmaaa
open Go.RowKit
open RX (ReN WF WFs lift under Sm Sms)

abbrev Walked (n : Nat) (l : List ReN) : Prop := ∀ (v : Value) (w : World), SlRe 0 0 w v l → Calls Try.prog 68 #[v] w (PartR (Nw w) (PG.tree n l) w)
theorem walk_under {g n : Nat} {x : ReN} {ls : List (List ReN)} {e : Int} (ht : ∀ l ∈ ls, RX.Top l) (hl : (under x ls).length ≤ 100000000)
    (hok : ∀ l ∈ ls, PG.Ok g (PG.tree n (l.map (lift (e + 1)))) ∧ Walked n (l.map (lift (e + 1)))) (hk : KOk (lift e x) (ls.map (List.map (lift (e + 1))))) : Walked (n + 1) ((under x ls).map (lift e)) := by
  intro v w hs
  rw [PG.tree_under ht]
  rw [RX.lift_under] at hs
  have hka : PG.kidsA (ls.flatten.map (lift (e + 1))) = ls.map (List.map (lift (e + 1))) := PG.kids_flat (e + 1) ls _ ht (Nat.le_refl _)
  have hlen : (under x ls).length = (ls.flatten.map (lift (e + 1))).length + 1 := by unfold under; rw [List.length_cons, List.length_map, List.length_map]
  have h := ptree_step g (lift e x) (ls.flatten.map (lift (e + 1))) (PG.tree n) v w hs (by rw [List.length_cons]; omega) (fun kid hkid => by
    rw [hka] at hkid
    obtain ⟨l, hl, rfl⟩ := List.mem_map.1 hkid
    exact hok l hl) (by rw [hka]; exact hk)
  rw [hka, List.map_map] at h
  exact h
mutual
theorem ptree_wf {g : Nat} : ∀ {l : List ReN} {a b : Int}, WF l a b → 0 ≤ a → b ≤ g → Sms l → ∀ (e : Int) (n : Nat), l.length ≤ n → l.length ≤ 100000000 → Walked n (l.map (lift e))
  | _, _, _, .leaf x a h0 hd hk, _, _, hs, e, n, hn, hl => by
    cases n with
    | zero => simp at hn
    | succ n =>
      have hx := hs x (by simp)
      intro v w hv
      have hkind : (lift e x).kind = x.kind := rfl
      refine ptree_step g (lift e x) [] (PG.tree n) v w hv (by simp) (fun kid hkid => by simp [PG.kidsA, PG.kids] at hkid) ?_
      unfold KOk
      rw [hkind]
      rcases hk with h | h | ⟨h, hs1, h2⟩
      · exact .inr (.inr (.inr (.inl h)))
      · exact .inr (.inr (.inr (.inr (.inl h))))
      · exact .inr (.inr (.inl ⟨h, hs1, Nat.le_trans hx.1 (by decide)⟩))
  | _, _, _, .seq x ls a b hd hk hw, h0, hb, hs, e, n, hn, hl => by
    have ht := fun l hl => (RX.wfs_base hw).top l hl
    cases n with
    | zero => simp [under] at hn
    | succ n =>
      have hin := RX.sms_in hs
      have hul : ∀ m ∈ ls, m.length ≤ n := fun m hm => by have := PG.under_len (x := x) hm; omega
      exact walk_under (g := g) ht hl (fun l hm => ⟨PG.trees_wf hw h0 hb (e + 1) n hul l hm, ptrees_wf (g := g) hw h0 hb hin.2 (e + 1) n hul (fun m hm => by have := PG.under_len (x := x) hm; omega) l hm⟩) (.inl hk)
  | _, _, _, .alt x ls a b hd hk h2 hw, h0, hb, hs, e, n, hn, hl => by
    have ht := fun l hl => (RX.wfs_base hw).top l hl
    cases n with
    | zero => simp [under] at hn
    | succ n =>
      have hin := RX.sms_in hs
      have hul : ∀ m ∈ ls, m.length ≤ n := fun m hm => by have := PG.under_len (x := x) hm; omega
      refine walk_under (g := g) ht hl (fun l hm => ⟨PG.trees_wf hw h0 hb (e + 1) n hul l hm, ptrees_wf (g := g) hw h0 hb hin.2 (e + 1) n hul (fun m hm => by have := PG.under_len (x := x) hm; omega) l hm⟩) (.inr (.inl ⟨hk, ?_⟩))
      intro h
      rw [List.map_eq_nil_iff] at h
      subst h
      simp at h2
  | _, _, _, .rep x l a b hd hk hlh hw, h0, hb, hs, e, n, hn, hl => by
    have ht : ∀ m ∈ [l], RX.Top m := fun m hm => by simp at hm; subst hm; exact (RX.wf_base hw).top
    cases n with
    | zero => simp [under] at hn
    | succ n =>
      have hin := RX.sms_in hs
      have hx := hin.1
      have hul := PG.under_len (x := x) (ls := [l]) (l := l) (by simp)
      refine walk_under (g := g) ht hl (fun m hm => ?_) (.inr (.inr (.inr (.inr (.inr (.inr ⟨hk, by simp, hx.2.1, Int.le_trans hx.2.2.1 (by decide), ?_⟩))))))
      · simp at hm
        subst hm
        exact ⟨PG.tree_wf hw h0 hb (e + 1) n (by omega), ptree_wf (g := g) hw h0 hb (hin.2 m (by simp)) (e + 1) n (by omega) (by omega)⟩
      · show x.hi < 0 ∨ x.lo ≤ x.hi ∧ x.hi ≤ 1000000
        have h9 := hx.2.2.2
        rcases Int.lt_or_le x.hi 0 with h | h
        · exact .inl h
        · exact .inr ⟨hlh h, by omega⟩
  | _, _, _, .grp x l a b hd hk hlo hw, h0, hb, hs, e, n, hn, hl => by
    have ht : ∀ m ∈ [l], RX.Top m := fun m hm => by simp at hm; subst hm; exact (RX.wf_base hw).top
    cases n with
    | zero => simp [under] at hn
    | succ n =>
      have hin := RX.sms_in hs
      have hx := hin.1
      have hul := PG.under_len (x := x) (ls := [l]) (l := l) (by simp)
      refine walk_under (g := g) ht hl (fun m hm => ?_) (.inr (.inr (.inr (.inr (.inr (.inl ⟨hk, by simp, hx.2.1, Int.le_trans hx.2.2.1 (by decide)⟩))))))
      simp at hm
      subst hm
      exact ⟨PG.tree_wf hw h0 hb (e + 1) n (by omega), ptree_wf (g := g) hw h0 hb (hin.2 m (by simp)) (e + 1) n (by omega) (by omega)⟩
  | _, _, _, .num x l a b h1 hd hk hlo hw, h0, hb, hs, e, n, hn, hl => by
    have ht : ∀ m ∈ [l], RX.Top m := fun m hm => by simp at hm; subst hm; exact (RX.wf_base hw).top
    cases n with
    | zero => simp [under] at hn
    | succ n =>
      have hin := RX.sms_in hs
      have hx := hin.1
      have hul := PG.under_len (x := x) (ls := [l]) (l := l) (by simp)
      refine walk_under (g := g) ht hl (fun m hm => ?_) (.inr (.inr (.inr (.inr (.inr (.inl ⟨hk, by simp, hx.2.1, Int.le_trans hx.2.2.1 (by decide)⟩))))))
      simp at hm
      subst hm
      exact ⟨PG.tree_wf hw (by omega) hb (e + 1) n (by omega), ptree_wf (g := g) hw (by omega) hb (hin.2 m (by simp)) (e + 1) n (by omega) (by omega)⟩
theorem ptrees_wf {g : Nat} : ∀ {ls : List (List ReN)} {a b : Int}, WFs ls a b → 0 ≤ a → b ≤ g → (∀ l ∈ ls, Sms l) → ∀ (e : Int) (n : Nat), (∀ l ∈ ls, l.length ≤ n) → (∀ l ∈ ls, l.length ≤ 100000000) → ∀ l ∈ ls, Walked n (l.map (lift e))
  | _, _, _, .nil a h0, _, _, _, _, _, _, _, l, hl => by simp at hl
  | _, _, _, .cons m ls a b c hw hs, h0, hb, hm, e, n, hn, hx, l, hl => by
    have h1 := (RX.wf_base hw).le
    have h2 := (RX.wfs_base hs).le
    rcases List.mem_cons.1 hl with he | hl
    · rw [he]
      exact ptree_wf (g := g) hw h0 (by omega) (hm _ (by simp)) e n (hn _ (by simp)) (hx _ (by simp))
    · exact ptrees_wf (g := g) hs (by omega) hb (fun q hq => hm q (by simp [hq])) e n (fun q hq => hn q (by simp [hq])) (fun q hq => hx q (by simp [hq])) l hl
end
theorem lift_zero (l : List ReN) : l.map (lift 0) = l := by
  conv => rhs; rw [← List.map_id l]
  exact List.map_congr_left fun x _ => by unfold lift; simp
/-- The tree of a pattern that is one. -/
theorem ptree_parse {s : List Int} {l : List ReN} {p : Int} (h : RX.parse s = (l, 0, p)) (v : Value) (w : World) (hs : SlRe 0 0 w v l) :
    Calls Try.prog 68 #[v] w (PartR (Nw w) (PG.tree l.length l) w) ∧ ∃ g : Nat, WF l 0 g ∧ PG.Ok g (PG.tree l.length l) := by
  obtain ⟨b, hw, -⟩ := RX.parse_wf h
  have hb := (RX.wf_base hw).le
  have hlen := (RX.parse_few h).1
  have hw' : WF l 0 ((b.toNat : Nat) : Int) := by rw [show ((b.toNat : Nat) : Int) = b by omega]; exact hw
  have h1 := ptree_wf (g := b.toNat) hw' (Int.le_refl _) (Int.le_refl _) (RX.parse_sms h) 0 l.length (Nat.le_refl _) (by omega)
  have h2 := PG.tree_wf (g := b.toNat) hw' (Int.le_refl _) (Int.le_refl _) 0 l.length (Nat.le_refl _)
  rw [lift_zero] at h1 h2
  exact ⟨h1 v w hs, b.toNat, hw', h2⟩
end Go.Proofs.Ytfblkahjefdmaaa
