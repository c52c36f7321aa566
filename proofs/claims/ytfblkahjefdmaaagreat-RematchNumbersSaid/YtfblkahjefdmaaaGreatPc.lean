/- Walk: tree of package reprog, every level. -/
import Derived.Test.YtfblkahjefdmaaaGreatPgY
import Derived.Test.YtfblkahjefdmaaaGreatPureA
import Derived.Test.YtfblkahjefdmaaaGreatWb
import Derived.Laws.OwnMore
import Derived.Test.YtfblkahjefdmaaaGreatWc
import Derived.Deep.RegionHeld3
namespace Go.Proofs.YtfblkahjefdmaaaGreat
open Go.RowKit
open RX (ReN WF WFs lift under Sm Sms)

abbrev Walked (n : Nat) (l : List ReN) : Prop := ∀ (v : Value) (w : World), SlRe 0 0 w v l → Calls Tryz.prog 30 #[v] w (PartR (Nw w) (PG.tree n l) w)
theorem walk_under {g n : Nat} {x : ReN} {ls : List (List ReN)} {e : Int} (ht : ∀ l ∈ ls, RX.Top l) (hl : (under x ls).length ≤ 100000000)
    (hok : ∀ l ∈ ls, PG.Ok g (PG.tree n (l.map (lift (e + 1)))) ∧ Walked n (l.map (lift (e + 1)))) (hk : KOk (lift e x) (ls.map (List.map (lift (e + 1))))) : Walked (n + 1) ((under x ls).map (lift e)) := by
  intro v w hs
  rw [PG.tree_under ht]
  rw [RX.lift_under] at hs
  have hka : PG.kidsA (ls.flatten.map (lift (e + 1))) = ls.map (List.map (lift (e + 1))) := PG.kids_flat (e + 1) ls _ ht (Nat.le_refl _)
  have hlen : (under x ls).length = (ls.flatten.map (lift (e + 1))).length + 1 := by unfold under; rw [List.length_cons, List.length_map, List.length_map]
  have h := ptree_step g (lift e x) (ls.flatten.map (lift (e + 1))) (PG.tree n) v w hs (by rw [List.length_cons]; omega) (fun kid hkid => by
    rw [hka] at hkid
    obtain ⟨l, hl, rfl⟩ := List.mem_map.1 hkid
    exact hok l hl) (by rw [hka]; exact hk)
  rw [hka, List.map_map] at h
  exact h
mutual
theorem ptree_wf {g : Nat} : ∀ {l : List ReN} {a b : Int}, WF l a b → 0 ≤ a → b ≤ g → Sms l → ∀ (e : Int) (n : Nat), l.length ≤ n → l.length ≤ 100000000 → Walked n (l.map (lift e))
  | _, _, _, .leaf x a h0 hd hk, _, _, hs, e, n, hn, hl => by
    cases n with
    | zero => simp at hn
    | succ n =>
      have hx := hs x (by simp)
      intro v w hv
      have hkind : (lift e x).kind = x.kind := rfl
      refine ptree_step g (lift e x) [] (PG.tree n) v w hv (by simp) (fun kid hkid => by simp [PG.kidsA, PG.kids] at hkid) ?_
      unfold KOk
      rw [hkind]
      rcases hk with h | h | ⟨h, hs1, h2⟩
      · exact .inr (.inr (.inr (.inl h)))
      · exact .inr (.inr (.inr (.inr (.inl h))))
      · exact .inr (.inr (.inl ⟨h, hs1, Nat.le_trans hx.1 (by decide)⟩))
  | _, _, _, .seq x ls a b hd hk hw, h0, hb, hs, e, n, hn, hl => by
    have ht := fun l hl => (RX.wfs_base hw).top l hl
    cases n with
    | zero => simp [under] at hn
    | succ n =>
      have hin := RX.sms_in hs
      have hul : ∀ m ∈ ls, m.length ≤ n := fun m hm => by have := PG.under_len (x := x) hm; omega
      exact walk_under (g := g) ht hl (fun l hm => ⟨PG.trees_wf hw h0 hb (e + 1) n hul l hm, ptrees_wf (g := g) hw h0 hb hin.2 (e + 1) n hul (fun m hm => by have := PG.under_len (x := x) hm; omega) l hm⟩) (.inl hk)
  | _, _, _, .alt x ls a b hd hk h2 hw, h0, hb, hs, e, n, hn, hl => by
    have ht := fun l hl => (RX.wfs_base hw).top l hl
    cases n with
    | zero => simp [under] at hn
    | succ n =>
      have hin := RX.sms_in hs
      have hul : ∀ m ∈ ls, m.length ≤ n := fun m hm => by have := PG.under_len (x := x) hm; omega
      refine walk_under (g := g) ht hl (fun l hm => ⟨PG.trees_wf hw h0 hb (e + 1) n hul l hm, ptrees_wf (g := g) hw h0 hb hin.2 (e + 1) n hul (fun m hm => by have := PG.under_len (x := x) hm; omega) l hm⟩) (.inr (.inl ⟨hk, ?_⟩))
      intro h
      rw [List.map_eq_nil_iff] at h
      subst h
      simp at h2
  | _, _, _, .rep x l a b hd hk hlh hw, h0, hb, hs, e, n, hn, hl => by
    have ht : ∀ m ∈ [l], RX.Top m := fun m hm => by simp at hm; subst hm; exact (RX.wf_base hw).top
    cases n with
    | zero => simp [under] at hn
    | succ n =>
      have hin := RX.sms_in hs
      have hx := hin.1
      have hul := PG.under_len (x := x) (ls := [l]) (l := l) (by simp)
      refine walk_under (g := g) ht hl (fun m hm => ?_) (.inr (.inr (.inr (.inr (.inr (.inr ⟨hk, by simp, hx.2.1, Int.le_trans hx.2.2.1 (by decide), ?_⟩))))))
      · simp at hm
        subst hm
        exact ⟨PG.tree_wf hw h0 hb (e + 1) n (by omega), ptree_wf (g := g) hw h0 hb (hin.2 m (by simp)) (e + 1) n (by omega) (by omega)⟩
      · show x.hi < 0 ∨ x.lo ≤ x.hi ∧ x.hi ≤ 1000000
        have h9 := hx.2.2.2
        rcases Int.lt_or_le x.hi 0 with h | h
        · exact .inl h
        · exact .inr ⟨hlh h, by omega⟩
  | _, _, _, .grp x l a b hd hk hlo hw, h0, hb, hs, e, n, hn, hl => by
    have ht : ∀ m ∈ [l], RX.Top m := fun m hm => by simp at hm; subst hm; exact (RX.wf_base hw).top
    cases n with
    | zero => simp [under] at hn
    | succ n =>
      have hin := RX.sms_in hs
      have hx := hin.1
      have hul := PG.under_len (x := x) (ls := [l]) (l := l) (by simp)
      refine walk_under (g := g) ht hl (fun m hm => ?_) (.inr (.inr (.inr (.inr (.inr (.inl ⟨hk, by simp, hx.2.1, Int.le_trans hx.2.2.1 (by decide)⟩))))))
      simp at hm
      subst hm
      exact ⟨PG.tree_wf hw h0 hb (e + 1) n (by omega), ptree_wf (g := g) hw h0 hb (hin.2 m (by simp)) (e + 1) n (by omega) (by omega)⟩
  | _, _, _, .num x l a b h1 hd hk hlo hw, h0, hb, hs, e, n, hn, hl => by
    have ht : ∀ m ∈ [l], RX.Top m := fun m hm => by simp at hm; subst hm; exact (RX.wf_base hw).top
    cases n with
    | zero => simp [under] at hn
    | succ n =>
      have hin := RX.sms_in hs
      have hx := hin.1
      have hul := PG.under_len (x := x) (ls := [l]) (l := l) (by simp)
      refine walk_under (g := g) ht hl (fun m hm => ?_) (.inr (.inr (.inr (.inr (.inr (.inl ⟨hk, by simp, hx.2.1, Int.le_trans hx.2.2.1 (by decide)⟩))))))
      simp at hm
      subst hm
      exact ⟨PG.tree_wf hw (by omega) hb (e + 1) n (by omega), ptree_wf (g := g) hw (by omega) hb (hin.2 m (by simp)) (e + 1) n (by omega) (by omega)⟩
theorem ptrees_wf {g : Nat} : ∀ {ls : List (List ReN)} {a b : Int}, WFs ls a b → 0 ≤ a → b ≤ g → (∀ l ∈ ls, Sms l) → ∀ (e : Int) (n : Nat), (∀ l ∈ ls, l.length ≤ n) → (∀ l ∈ ls, l.length ≤ 100000000) → ∀ l ∈ ls, Walked n (l.map (lift e))
  | _, _, _, .nil a h0, _, _, _, _, _, _, _, l, hl => by simp at hl
  | _, _, _, .cons m ls a b c hw hs, h0, hb, hm, e, n, hn, hx, l, hl => by
    have h1 := (RX.wf_base hw).le
    have h2 := (RX.wfs_base hs).le
    rcases List.mem_cons.1 hl with he | hl
    · rw [he]
      exact ptree_wf (g := g) hw h0 (by omega) (hm _ (by simp)) e n (hn _ (by simp)) (hx _ (by simp))
    · exact ptrees_wf (g := g) hs (by omega) hb (fun q hq => hm q (by simp [hq])) e n (fun q hq => hn q (by simp [hq])) (fun q hq => hx q (by simp [hq])) l hl
end
theorem lift_zero (l : List ReN) : l.map (lift 0) = l := by
  conv => rhs; rw [← List.map_id l]
  exact List.map_congr_left fun x _ => by unfold lift; simp
/-- The tree of a pattern that is one. -/
theorem ptree_parse {s : List Int} {l : List ReN} {p : Int} (h : RX.parse s = (l, 0, p)) (v : Value) (w : World) (hs : SlRe 0 0 w v l) :
    Calls Tryz.prog 30 #[v] w (PartR (Nw w) (PG.tree l.length l) w) ∧ ∃ g : Nat, WF l 0 g ∧ PG.Ok g (PG.tree l.length l) := by
  obtain ⟨b, hw, -⟩ := RX.parse_wf h
  have hb := (RX.wf_base hw).le
  have hlen := (RX.parse_few h).1
  have hw' : WF l 0 ((b.toNat : Nat) : Int) := by rw [show ((b.toNat : Nat) : Int) = b by omega]; exact hw
  have h1 := ptree_wf (g := b.toNat) hw' (Int.le_refl _) (Int.le_refl _) (RX.parse_sms h) 0 l.length (Nat.le_refl _) (by omega)
  have h2 := PG.tree_wf (g := b.toNat) hw' (Int.le_refl _) (Int.le_refl _) 0 l.length (Nat.le_refl _)
  rw [lift_zero] at h1 h2
  exact ⟨h1 v w hs, b.toNat, hw', h2⟩
end Go.Proofs.YtfblkahjefdmaaaGreat

/- Words on memory for Compile of package reprog. -/
namespace Go.Proofs.YtfblkahjefdmaaaGreat
open Go.RowKit

/-- append([]rune(nil), set...), of any set, as a step of a region that draws its order. -/
theorem step_setA {S : Nat → Prop} {w : World} {ops : Array Oper} {o : Oper} {a : Act} {K : Act → World → Prop} {Q : Exit → Act → World → Prop} {E : Prop} (hgd : o.guard = none) (s x : Operand)
    (ho : o.op = .call { callee := .builtin .append, args := #[s, x], argTypes := #[24, 24] }) (v : Value) (set : List Int) (hv : SlCS S w v set) (hm : set.length ≤ 1000000) (hs : a.eval s = .slice none 0 0) (hx : a.eval x = v)
    (h : ∀ A cap w', SlB 21 1 Cc w.heap.size w' (.slice A set.length cap) set → Ext w w' → K (a.put o.dst (.slice A set.length cap)) w') :
    if Region.wanted o (yielded ops a.tmps) = true then Oper.wp Tryz.prog o a w K Q else E := by
  obtain ⟨i0, hi, hz0, hz1, hz2⟩ := info_parts info_c
  have hw : Region.wanted o (yielded ops a.tmps) = true := by simp [Region.wanted, hgd]
  rw [if_pos hw]
  have hnil : w.ownsRow w.heap.size 21 1 (.slice none 0 0) 0 [] := ⟨by simp, .inl ⟨rfl, rfl⟩⟩
  obtain ⟨A, c, rfl, hlc, hcm, hcell, hnone⟩ := hv
  cases A with
  | none =>
    have hc := hnone rfl
    subst hc
    have h0 : set = [] := List.eq_nil_of_length_eq_zero (by omega)
    subst h0
    have hrun := run_append_owned_none (P := Tryz.prog) (w := w) w.heap.size 24 o.type 21 i0 1 Tryz.underlying24 hi (.slice none 0 0) 0 [] hnil
    have hh := h none 0 w SlB.nil_ (Ext.refl _)
    unfold Oper.wp execOp
    simp only [ho, resolve, invoke, builtin, Sem.run_bind, Sem.run_pure, Result.andThen_ok, List.map_toArray, List.map_cons, List.map_nil, hs, hx, List.length_nil, hrun]
    exact hh
  | some ad =>
    have hnews : ∀ j u, (set.map (Value.int .i32))[j]? = some u → w.cell? (ad.add j) = some u := cells_map fun j y hy => by
      obtain ⟨b, o, hA, -, hr⟩ := hcell j y hy
      obtain rfl := Option.some.inj hA
      rw [Nat.mul_one] at hr
      have : (⟨b, o, none⟩ : Addr).add j = ⟨b, o + j, none⟩ := by unfold Addr.add; split <;> simp_all
      rw [this]; exact hr
    obtain ⟨v', w', hrun, hown, hgr, -⟩ := run_append_own (P := Tryz.prog) (w := w) w.heap.size 24 o.type 21 i0 (.int .i32 0) 1 4 Tryz.underlying24 hi hz0 hz1 hz2 rfl (by decide) (.slice none 0 0) 0 [] hnil ad set.length c (set.map (Value.int .i32)) (by simp) hnews
      (fun u hu => by obtain ⟨y, _, rfl⟩ := List.mem_map.1 hu; rfl) (by unfold maxLen; omega) (by omega) (Nat.le_refl _)
    rw [Nat.zero_add, List.nil_append] at hown
    have hB := OwnB.of_flat_i32 hown
    obtain ⟨A', c', rfl, -⟩ := hB.form
    have hh := h A' c' w' hB.sl ((Ext.refl w).grown hgr (fun k hk => by cases hk))
    unfold Oper.wp execOp
    simp only [ho, resolve, invoke, builtin, Sem.run_bind, Sem.run_pure, Result.andThen_ok, List.map_toArray, List.map_cons, List.map_nil, hs, hx, hrun]
    exact hh

/-- Instructions in new blocks, that may be written; their sets likewise. -/
def IcW (B : Nat) (w : World) (cs : List Value) (i : PG.Inst) : Prop := ∃ vs, cs = [.int .i64 i.op, .int .i64 i.x, .int .i64 i.y, .bool i.neg, vs] ∧ SlB 21 1 Cc B w vs i.set
def SlX (B : Nat) (w : World) (v : Value) (l : List PG.Inst) : Prop := ∃ A c, v = .slice A l.length c ∧ l.length ≤ c ∧ c ≤ 9223372036854775807 ∧ (A = none → c = 0) ∧ ∀ ad, A = some ad → ∃ g o cur, ad = ⟨g, o, none⟩ ∧ B ≤ g ∧ w.heap[g]? = some (.cells cur 72 (0, 0)) ∧
  ∀ k x, l[k]? = some x → ∃ cs, IcW B w cs x ∧ ∀ j u, cs[j]? = some u → w.cell? ⟨g, o + k * 5 + j, none⟩ = some u
theorem SlX.nil_ {B : Nat} {w : World} : SlX B w (.slice none 0 0) [] := ⟨none, 0, rfl, Nat.le_refl _, by omega, fun _ => rfl, by intro ad h; cases h⟩
theorem SlX.form {B : Nat} {w : World} {v : Value} {l : List PG.Inst} (h : SlX B w v l) : ∃ A c, v = .slice A l.length c ∧ l.length ≤ c ∧ c ≤ 9223372036854775807 := by
  obtain ⟨A, c, hv, h1, h2, -⟩ := h
  exact ⟨A, c, hv, h1, h2⟩
theorem SlX.atX {B : Nat} {w : World} {A : Option Addr} {n c : Nat} {l : List PG.Inst} (h : SlX B w (.slice A n c) l) {k : Nat} (hk : k < l.length) :
    ∃ g o vs, A = some ⟨g, o, none⟩ ∧ B ≤ g ∧ (∃ cur, w.heap[g]? = some (.cells cur 72 (0, 0))) ∧ SlB 21 1 Cc B w vs l[k].set ∧ ∀ j u, [Value.int .i64 l[k].op, .int .i64 l[k].x, .int .i64 l[k].y, .bool l[k].neg, vs][j]? = some u → w.cell? ⟨g, o + k * 5 + j, none⟩ = some u := by
  obtain ⟨A', c', hv, h1, h2, h3, h4⟩ := h
  injection hv with e1 e2 e3
  subst e1
  cases A with
  | none => have := h3 rfl; omega
  | some ad =>
    obtain ⟨g, o, cur, rfl, hB, hg, hc⟩ := h4 ad rfl
    obtain ⟨cs, ⟨vs, rfl, h5⟩, h6⟩ := hc k _ (List.getElem?_eq_getElem hk)
    exact ⟨g, o, vs, rfl, hB, ⟨cur, hg⟩, h5, h6⟩
theorem SlX.ext {B : Nat} {w w' : World} {v : Value} {l : List PG.Inst} (h : SlX B w v l) (hx : Ext w w') : SlX B w' v l := by
  obtain ⟨A', c', hv, h1, h2, h3, h4⟩ := h
  refine ⟨A', c', hv, h1, h2, h3, fun ad had => ?_⟩
  obtain ⟨g, o, cur, rfl, hB, hg, hc⟩ := h4 ad had
  refine ⟨g, o, cur, rfl, hB, hx.heap hg, fun k x hk => ?_⟩
  obtain ⟨cs, ⟨vs, rfl, h5⟩, h6⟩ := hc k x hk
  exact ⟨_, ⟨vs, rfl, SlB.keep h5 (keeps_c []) (fun _ _ _ h => by cases h) (KeepT.of_ext hx)⟩, fun j u hu => hx.cell (h6 j u hu)⟩

theorem SlX.off {B fb : Nat} {w w' : World} {v : Value} {l : List PG.Inst} {cs : Array Value} (h : SlX B w v l) (hf : w.heap[fb]? = some (.cells cs 31 (0, 0))) (hw : ∀ i, i ≠ fb → w'.heap[i]? = w.heap[i]?) : SlX B w' v l := by
  have hT : ∀ {g' : Nat} {cur : Array Value} {t : TypeId}, t ≠ 31 → w.heap[g']? = some (.cells cur t (0, 0)) → w'.heap[g']? = some (.cells cur t (0, 0)) := by
    intro g' cur t ht hg
    rw [hw g' (by intro e; rw [e, hf] at hg; injection hg with h1; injection h1 with _ h1 _; exact ht h1.symm)]
    exact hg
  obtain ⟨A', c', hv, h1, h2, h3, h4⟩ := h
  refine ⟨A', c', hv, h1, h2, h3, fun ad had => ?_⟩
  obtain ⟨g, o, cur, rfl, hB, hg, hc⟩ := h4 ad had
  have hg' := hT (by decide) hg
  refine ⟨g, o, cur, rfl, hB, hg', fun k x hk => ?_⟩
  obtain ⟨cs, ⟨vs, rfl, h5⟩, h6⟩ := hc k x hk
  have hk' : KeepT [21] w w' := by
    intro g' cur' t ht hh
    simp at ht
    subst ht
    exact hT (by decide) hh
  exact ⟨_, ⟨vs, rfl, SlB.keep h5 (keeps_c []) (fun _ _ _ h => by cases h) hk'⟩, fun j u hu => by rw [cell_of_row _ g _ _ _ _ hg', ← cell_of_row _ g _ _ _ _ hg]; exact h6 j u hu⟩
/-- Inside of Compile: the fault's box fb, the program's box pb; the sets of k instructions are their own. -/
structure Cmq (w : World) (fb pb g o c : Nat) (n : Int) (l : List PG.Inst) (k : Nat) (wr : World) : Prop where
  ext : Ext w wr
  flt : wr.heap[fb]? = some (.cells #[.int .i64 0, .int .i64 0] 31 (0, 0))
  box : wr.heap[pb]? = some (.cells #[.slice (some ⟨g, o, none⟩) l.length c, .int .i64 n] 66 (0, 0))
  lof : w.heap.size ≤ fb
  log : w.heap.size ≤ g
  len : l.length ≤ c ∧ c ≤ 9223372036854775807
  row : ∃ cur, wr.heap[g]? = some (.cells cur 72 (0, 0))
  els : ∀ (j : Nat) (x : PG.Inst), l[j]? = some x → ∃ vs, (∀ (i : Nat) (u : Value), [Value.int .i64 x.op, .int .i64 x.x, .int .i64 x.y, .bool x.neg, vs][i]? = some u → wr.cell? ⟨g, o + j * 5 + i, none⟩ = some u) ∧ SlCS (Nw w) wr vs x.set ∧ (j < k → SlB 21 1 Cc w.heap.size wr vs x.set)
section
variable {w wr w' : World} {fb pb g o c k : Nat} {n : Int} {l : List PG.Inst}
theorem Cmq.ext_ (h : Cmq w fb pb g o c n l k wr) (hx : Ext wr w') : Cmq w fb pb g o c n l k w' :=
  ⟨h.ext.trans hx, hx.heap h.flt, hx.heap h.box, h.lof, h.log, h.len, let ⟨cur, hg⟩ := h.row; ⟨cur, hx.heap hg⟩, fun j x hj => by
    obtain ⟨vs, h1, h2, h3⟩ := h.els j x hj
    exact ⟨vs, fun i u hu => hx.cell (h1 i u hu), h2.keep hx.keepS, fun hk => SlB.keep (h3 hk) (keeps_c []) (fun _ _ _ h => by cases h) (KeepT.of_ext hx)⟩⟩
theorem Cmq.b0 (h : Cmq w fb pb g o c n l k wr) : wr.cell? ⟨pb, 0, none⟩ = some (.slice (some ⟨g, o, none⟩) l.length c) := cell_of_row wr pb 0 _ _ _ h.box
theorem Cmq.r0 (h : Cmq w fb pb g o c n l k wr) : wr.cell? ⟨fb, 0, none⟩ = some (.int .i64 0) := cell_of_row wr fb 0 _ _ _ h.flt
theorem Cmq.r1 (h : Cmq w fb pb g o c n l k wr) : wr.cell? ⟨fb, 1, none⟩ = some (.int .i64 0) := cell_of_row wr fb 1 _ _ _ h.flt
theorem Cmq.fr (h : Cmq w fb pb g o c n l k wr) (i : Nat) : wr.frozen? ⟨fb, i, none⟩ = false := frozen_of_row wr fb i _ _ h.flt
theorem Cmq.fg (h : Cmq w fb pb g o c n l k wr) (i : Nat) : wr.frozen? ⟨g, i, none⟩ = false := let ⟨_, hg⟩ := h.row; frozen_of_row wr g i _ _ hg
theorem Cmq.hpg (h : Cmq w fb pb g o c n l k wr) : pb ≠ g := by
  obtain ⟨cur, hg⟩ := h.row
  intro e; have h1 := h.box; rw [e, hg] at h1; injection h1 with h1; injection h1 with _ h1 _; exact absurd h1 (by decide)
theorem Cmq.hgl (h : Cmq w fb pb g o c n l k wr) : g < wr.heap.size := let ⟨_, hg⟩ := h.row; heap_lt hg
/-- The set of the next instruction, stored. -/
theorem Cmq.put (h : Cmq w fb pb g o c n l k wr) {A : Option Addr} {m cap : Nat} (hk : k < l.length) (hs : SlB 21 1 Cc w.heap.size wr (.slice A m cap) l[k].set) : Cmq w fb pb g o c n l (k + 1) (wr.setCell ⟨g, o + k * 5 + 4, none⟩ (.slice A m cap)) := by
  obtain ⟨cur, hg⟩ := h.row
  have hfg : fb ≠ g := by intro e; have h1 := h.flt; rw [e, hg] at h1; injection h1 with h1; injection h1 with _ h1 _; exact absurd h1 (by decide)
  have hpg : pb ≠ g := by intro e; have h1 := h.box; rw [e, hg] at h1; injection h1 with h1; injection h1 with _ h1 _; exact absurd h1 (by decide)
  have hset := heap_set (o := o + k * 5 + 4) (u := .slice A m cap) hg
  have hT : KeepT [21] wr (wr.setCell ⟨g, o + k * 5 + 4, none⟩ (.slice A m cap)) := by
    intro g' cur' t ht hg'
    simp at ht
    subst ht
    have hne : g' ≠ g := by intro e; rw [e, hg] at hg'; injection hg' with h1; injection h1 with _ h1 _; exact absurd h1 (by decide)
    rw [heap_off hne]; exact hg'
  obtain ⟨vk, hk1, hk2, -⟩ := h.els k _ (List.getElem?_eq_getElem hk)
  have hk4 := hk1 4 vk rfl
  obtain ⟨Ak, ck, rfl, -⟩ := id hk2
  have hoff : ∀ i, i ≠ o + k * 5 + 4 → (wr.setCell ⟨g, o + k * 5 + 4, none⟩ (.slice A m cap)).cell? ⟨g, i, none⟩ = wr.cell? ⟨g, i, none⟩ := by
    intro i hi
    rw [cell_of_row _ g i _ _ _ hset, cell_of_row _ g i _ _ _ hg, Array.getElem?_setIfInBounds]
    rw [if_neg (Ne.symm hi)]
  have hS : ∀ {vs : Value} {set : List Int}, SlCS (Nw w) wr vs set → SlCS (Nw w) (wr.setCell ⟨g, o + k * 5 + 4, none⟩ (.slice A m cap)) vs set := by
    intro vs set hvs
    refine SlR.mono2 hvs fun b i x hx => ⟨hx.1, ?_⟩
    by_cases hb : b = g
    · subst hb
      have hi : i ≠ o + k * 5 + 4 := by
        intro e
        subst e
        rw [hx.2] at hk4
        cases hk4
      rw [hoff i hi]; exact hx.2
    · rw [cell_heap (heap_off hb)]; exact hx.2
  refine ⟨h.ext.set (p := ⟨g, o + k * 5 + 4, none⟩) h.log _, (heap_off hfg).trans h.flt, (heap_off hpg).trans h.box, h.lof, h.log, h.len, ⟨_, hset⟩, fun j x hj => ?_⟩
  by_cases hjk : j = k
  · subst hjk
    rw [List.getElem?_eq_getElem hk] at hj
    obtain rfl := Option.some.inj hj
    have hsz : o + j * 5 + 4 < cur.size := by
      rw [cell_of_row _ g _ _ _ _ hg] at hk4
      rcases Nat.lt_or_ge (o + j * 5 + 4) cur.size with h | h
      · exact h
      · rw [Array.getElem?_eq_none h] at hk4; cases hk4
    have hnew : (wr.setCell ⟨g, o + j * 5 + 4, none⟩ (.slice A m cap)).cell? ⟨g, o + j * 5 + 4, none⟩ = some (.slice A m cap) := by
      rw [cell_of_row _ g _ _ _ _ hset, Array.getElem?_setIfInBounds, if_pos rfl, if_pos hsz]
    have hBk := SlB.keep hs (keeps_c []) (fun _ _ _ h => by cases h) hT
    refine ⟨.slice A m cap, fun i u hu => ?_, ?_, fun _ => hBk⟩
    · match i, hu with
      | 0, hu => rw [hoff _ (by omega)]; exact hk1 0 u hu
      | 1, hu => rw [hoff _ (by omega)]; exact hk1 1 u hu
      | 2, hu => rw [hoff _ (by omega)]; exact hk1 2 u hu
      | 3, hu => rw [hoff _ (by omega)]; exact hk1 3 u hu
      | 4, hu => simp at hu; rw [← hu]; exact hnew
      | i + 5, hu => simp at hu
    · obtain ⟨A', c', hv, h1, h2, h3, h4⟩ := hBk
      refine ⟨A', c', hv, h1, h2, fun i x hx => ?_, h3⟩
      cases A' with
      | none =>
        have := h3 rfl
        obtain ⟨hi, -⟩ := List.getElem?_eq_some_iff.1 hx
        omega
      | some ad =>
        obtain ⟨b, q, cur', rfl, hb, hh, -, h5⟩ := h4 ad rfl
        obtain ⟨cs, h6, h7⟩ := h5 i x hx
        refine ⟨b, q, rfl, hb, ?_⟩
        rw [cell_of_row _ b _ _ _ _ hh]
        have h8 : cs = [.int .i32 x] := h6
        subst h8
        exact h7 0 _ rfl
  · obtain ⟨vs, h1, h2, h3⟩ := h.els j x hj
    refine ⟨vs, fun i u hu => ?_, hS h2, fun hlt => SlB.keep (h3 (by omega)) (keeps_c []) (fun _ _ _ h => by cases h) hT⟩
    have hi : i < 5 := by
      rcases Nat.lt_or_ge i 5 with h | h
      · exact h
      · rw [List.getElem?_eq_none (by simpa using h)] at hu; cases hu
    rw [hoff _ (by omega)]
    exact h1 i u hu
theorem Cmq.done (h : Cmq w fb pb g o c n l k wr) (hk : l.length ≤ k) : SlX w.heap.size wr (.slice (some ⟨g, o, none⟩) l.length c) l := by
  obtain ⟨cur, hg⟩ := h.row
  refine ⟨_, c, rfl, h.len.1, h.len.2, (by intro e; cases e), fun ad had => ?_⟩
  obtain rfl := Option.some.inj had
  refine ⟨g, o, cur, rfl, h.log, hg, fun j x hj => ?_⟩
  obtain ⟨vs, h1, h2, h3⟩ := h.els j x hj
  obtain ⟨hjl, -⟩ := List.getElem?_eq_some_iff.1 hj
  exact ⟨_, ⟨vs, rfl, h3 (by omega)⟩, h1⟩
end
/-- Inside of Compile, ahead of the program: the result's fault. -/
structure Cmr (w : World) (fb : Nat) (wr : World) : Prop where
  ext : Ext w wr
  lof : w.heap.size ≤ fb
  flt : wr.heap[fb]? = some (.cells #[.int .i64 0, .int .i64 0] 31 (0, 0))
section
variable {w wr w' : World} {fb : Nat}
theorem Cmr.ext_ (h : Cmr w fb wr) (hx : Ext wr w') : Cmr w fb w' := ⟨h.ext.trans hx, h.lof, hx.heap h.flt⟩
theorem Cmr.r0 (h : Cmr w fb wr) : wr.cell? ⟨fb, 0, none⟩ = some (.int .i64 0) := cell_of_row wr fb 0 _ _ _ h.flt
theorem Cmr.r1 (h : Cmr w fb wr) : wr.cell? ⟨fb, 1, none⟩ = some (.int .i64 0) := cell_of_row wr fb 1 _ _ _ h.flt
theorem Cmr.fr (h : Cmr w fb wr) (i : Nat) : wr.frozen? ⟨fb, i, none⟩ = false := frozen_of_row wr fb i _ _ h.flt
theorem Cmr.new (h : Cmr w fb wr) : NewIn (Nw w) wr := newIn_le h.ext.size
end
end Go.Proofs.YtfblkahjefdmaaaGreat

/- Walk: Compile of package reprog. -/
namespace Go.Proofs.YtfblkahjefdmaaaGreat
open Go.RowKit

/-- What Compile returns. -/
def CompP (s : List Int) (w : World) (e : Ending) (w' : World) : Prop :=
  Ext w w' ∧ ∃ v, e = .returned (.tuple #[v, .agg #[.int .i64 (PG.compile s).2.1, .int .i64 (PG.compile s).2.2]]) ∧ SlX w.heap.size w' v (PG.compile s).1
set_option maxRecDepth 100000 in
set_option maxHeartbeats 4000000 in
theorem pcompile_any (s : List Int) (v : Value) (w : World) (hv : SlC w v s) : Calls Tryz.prog 18 #[v] w (CompP s w) := by
  obtain ⟨A, c, rfl, hlc, hcm, -⟩ := id hv
  have HV := Lib.hid (fun w' (h : Ext w w') => parse_any s _ w' (hv.ext h))
  obtain ⟨R, hR⟩ : ∃ R, RX.parse s = R := ⟨_, rfl⟩
  obtain ⟨l, code, bat⟩ := R
  have HR := Lib.hid hR
  have hC : PG.compile s = (if code = 0 then (if 300 < (PG.whole l).n then ([], 3, (s.length : Int)) else ((PG.whole l).l, 0, 0)) else ([], code, bat)) := by unfold PG.compile; rw [hR]
  unfold CompP
  obtain ⟨C, hC'⟩ : ∃ C, PG.compile s = C := ⟨_, rfl⟩
  rw [hC'] at hC ⊢
  have HC := Lib.hid hC
  clear hv hC hC' hR
  go_enter Tryz.func18, Tryz.ntmps18
  go_upto_region 2 with (go_at_call 19; go_loud (refine (HV.out _ ((Ext.refl w).alloc _)).mono ?_; rintro e w2 ⟨v2, u2, rfl, ⟨hv2, rfl⟩, hE2⟩; have HM2 := Lib.hid (show Cmr w w.heap.size w2 from ⟨((Ext.refl w).alloc _).trans hE2, Nat.le_refl _, hE2.heap (heap_alloc_new w _)⟩); rw [HR.out] at hv2 ⊢; dsimp only at hv2 ⊢; have HV2 := Lib.hid hv2; have hv2f := hv2.form; clear hv2 hE2))
  obtain ⟨A2, c2, rfl, hlc2, hcm2⟩ := hv2f
  have HM3 := Lib.hid (HM2.out.ext_ ((Ext.refl w2).alloc (.cells #[.int .i64 code, .int .i64 bat] 31)))
  have HV3 := Lib.hid (SlB.keep HV2.out (keeps_re _) (KeepT.of_ext ((Ext.refl w2).alloc (.cells #[.int .i64 code, .int .i64 bat] 31))) (KeepT.of_ext ((Ext.refl w2).alloc (.cells #[.int .i64 code, .int .i64 bat] 31))))
  have q0 : (w2.alloc (.cells #[.int .i64 code, .int .i64 bat] 31)).cell? ⟨w2.heap.size, 0, none⟩ = some (.int .i64 code) := by rw [World.cell?_alloc_new]; rfl
  have q1 : (w2.alloc (.cells #[.int .i64 code, .int .i64 bat] 31)).cell? ⟨w2.heap.size, 1, none⟩ = some (.int .i64 bat) := by rw [World.cell?_alloc_new]; rfl
  have hne : w2.heap.size ≠ w.heap.size := by have := heap_lt HM2.out.flt; omega
  have r0 := HM3.out.r0
  have r1 := HM3.out.r1
  have f0 := HM3.out.fr 0
  have f1 := HM3.out.fr 1
  generalize w2.alloc _ = w3 at HM3 HV3 q0 q1 r0 r1 f0 f1 ⊢
  generalize hfb : w.heap.size = fb at HM3 hne r0 r1 f0 f1 ⊢
  generalize w2.heap.size = xb at q0 q1 hne ⊢
  have HFB := Lib.hid hfb
  clear hfb HM2 HV2
  by_cases hc : code = 0
  rotate_left
  · have hb : (code != 0) = true := by simpa using hc
    have HC1 := Lib.hid (show C = ([], code, bat) by rw [HC.out, if_neg hc])
    clear hc
    go_wp2_with fail
    go_region
    go_wp2_with fail
    refine bodyPost_ret (v := .tuple #[.slice none 0 0, .agg #[.int .i64 code, .int .i64 bat]]) (by simp [results, Tryz.results18, go_sem, r0, r1]) rfl ?_
    rw [HC1.out]
    exact ⟨((HM3.out.ext.set (p := ⟨fb, 0, none⟩) HM3.out.lof _).set (p := ⟨fb, 1, none⟩) HM3.out.lof _).drew, _, rfl, SlX.nil_⟩
  subst hc
  have hbat : bat = 0 := RX.parse_at HR.out
  subst hbat
  have HT := Lib.hid (fun w' (h : Ext w3 w') => (ptree_parse HR.out _ w' (SlRe.weak (SlB.keep HV3.out (keeps_re _) (KeepT.of_ext h) (KeepT.of_ext h)) (Nat.zero_le _))).1)
  obtain ⟨g9, -, hok⟩ := (ptree_parse HR.out _ w3 (SlRe.weak HV3.out (Nat.zero_le _))).2
  have HOK := Lib.hid hok
  have HWH := Lib.hid (fun h => PG.whole_made (l := l) (RX.parse_sms HR.out) hok h)
  obtain ⟨W, hW⟩ : ∃ W, PG.whole l = W := ⟨_, rfl⟩
  have HWW := Lib.hid (show PG.row [PG.save 0, PG.tree l.length l, PG.save 1, PG.one [⟨6, 0, 0, false, []⟩]] = W from hW)
  rw [hW] at HWH
  have HC1 := Lib.hid (show C = (if 300 < W.n then ([], 3, (s.length : Int)) else (W.l, 0, 0)) by rw [HC.out, if_pos rfl, hW])
  obtain ⟨p0, hp0⟩ : ∃ q, PG.save 0 = q := ⟨_, rfl⟩
  obtain ⟨p1, hp1⟩ : ∃ q, PG.tree l.length l = q := ⟨_, rfl⟩
  obtain ⟨p2, hp2⟩ : ∃ q, PG.save 1 = q := ⟨_, rfl⟩
  obtain ⟨p3, hp3⟩ : ∃ q, PG.one [⟨6, 0, 0, false, []⟩] = q := ⟨_, rfl⟩
  have HSA := Lib.hid (psave_any 0)
  have HSB := Lib.hid (psave_any 1)
  have HON := Lib.hid (fun v8 w8 (h : SlN (Nw w) w8 v8 [⟨6, 0, 0, false, []⟩]) => pone_any [⟨6, 0, 0, false, []⟩] v8 w8 h)
  have HRO := Lib.hid (rowable4 rok_save (Rok.of_ok hok) rok_save (⟨PG.one_fine (by simp), fun i hi => by simp [PG.one] at hi; subst hi; exact ⟨fun h => by simp at h, fun h => by simp at h⟩⟩ : Rok (PG.one [⟨6, 0, 0, false, []⟩])) (p := PG.save 0) (r := PG.save 1))
  rw [hp0] at HSA HRO HWW
  rw [hp1] at HT HRO HWW HWH
  rw [hp2] at HSB HRO HWW
  rw [hp3] at HON HRO HWW
  have HROW := Lib.hid (fun v w' (h : SlP (Nw w) w' v [p0, p1, p2, p3]) => prow_all [p0, p1, p2, p3] v w' h HRO.out)
  rw [HWW.out] at HROW
  have tok1 : True := trivial
  clear hok hW hp0 hp1 hp2 hp3 r0 r1 f0 f1
  go_upto_region 5 with (first
    | (go_at_call 29; go_loud (clear tok1; refine (HSA.out _).mono ?_; rintro e w4 ⟨hx4, A4, c4, rfl, hl4⟩; have HL4 := Lib.hid (hl4.new HM3.out.new); have HM4 := Lib.hid (HM3.out.ext_ hx4); have HX4 := Lib.hid hx4; clear hl4 hx4))
    | (go_at_call 30; go_loud (refine (HT.out _ HX4.out).mono ?_; rintro e w5 ⟨hx5, A5, c5, rfl, hl5⟩; have HL5 := Lib.hid (hl5.new HM4.out.new); have HM5 := Lib.hid (HM4.out.ext_ hx5); have HL45 := Lib.hid (HL4.out.ext hx5); clear hl5 hx5))
    | (go_at_call 29; go_loud (refine (HSB.out _).mono ?_; rintro e w6 ⟨hx6, A6, c6, rfl, hl6⟩; have HL6 := Lib.hid (hl6.new HM5.out.new); have HM6 := Lib.hid (HM5.out.ext_ hx6); have HL46 := Lib.hid (HL45.out.ext hx6); have HL56 := Lib.hid (HL5.out.ext hx6); clear hl6 hx6))
    | (go_at_call 31; go_loud (refine (HON.out _ _ (inst_lit5 6 0 0 false [] HM6.out.new (by simp) SlR.nil_)).mono ?_; rintro e w7 ⟨hx7, A7, c7, rfl, hl7⟩; have HL7 := Lib.hid hl7; have hy7 := ((Ext.refl w6).alloc (.cells #[.int .i64 6, .int .i64 0, .int .i64 0, .bool false, .slice none 0 0] 72)).trans hx7; have HM7 := Lib.hid (HM6.out.ext_ hy7); have HL47 := Lib.hid (HL46.out.ext hy7); have HL57 := Lib.hid (HL56.out.ext hy7); have HL67 := Lib.hid (HL6.out.ext hy7); clear hl7 hx7 hy7))
    | (go_at_call 28; go_loud (refine (HROW.out _ _ (parts4 (t := 66) (g := w7.heap.size) rfl HL47.out HL57.out HL67.out HL7.out)).mono ?_; rintro e w8 ⟨⟨hx8, A8, c8, rfl, hl8⟩, hty⟩; have HL8 := Lib.hid hl8; have HM8 := Lib.hid (HM7.out.ext_ (((Ext.refl w7).alloc _).trans hx8)); have HTY := Lib.hid hty; have HSZ := Lib.hid HM7.out.ext.size; have hl8f := hl8.form; clear hl8 hx8 hty)))
  by_cases hn : 300 < W.n
  · have hd : decide ((300 : Int) < (W.n : Int)) = true := by simp; omega
    have HC2 := Lib.hid (show C = ([], 3, (s.length : Int)) by rw [HC1.out, if_pos hn])
    have HM9 := Lib.hid (HM8.out.ext_ ((Ext.refl w8).alloc (.cells #[.slice A8 W.l.length c8, .int .i64 (W.n : Int)] 66)))
    have r0 := HM9.out.r0
    have r1 := HM9.out.r1
    have f0 := HM9.out.fr 0
    have f1 := HM9.out.fr 1
    have b1 : (w8.alloc (.cells #[.slice A8 W.l.length c8, .int .i64 (W.n : Int)] 66)).cell? ⟨w8.heap.size, 1, none⟩ = some (.int .i64 (W.n : Int)) := by rw [World.cell?_alloc_new]; rfl
    generalize w8.alloc _ = w9 at HM9 r0 r1 f0 f1 b1 ⊢
    clear hn
    go_wp2_with fail
    refine bodyPost_ret (v := .tuple #[.slice none 0 0, .agg #[.int .i64 3, .int .i64 (s.length : Int)]]) (by simp [results, Tryz.results18, go_sem, r0, r1]) rfl ?_
    rw [HC2.out]
    exact ⟨(HM9.out.ext.set (p := ⟨fb, 0, none⟩) HM9.out.lof _).set (p := ⟨fb, 1, none⟩) HM9.out.lof _, _, rfl, SlX.nil_⟩
  have hd : decide ((300 : Int) < (W.n : Int)) = false := by simp; omega
  have HC2 := Lib.hid (show C = (W.l, 0, 0) by rw [HC1.out, if_neg hn])
  have hwl := HWH.out (by omega)
  have hlen : 0 < W.l.length := by rw [hwl.2.2.2]; simp
  have hlen3 : W.l.length ≤ 300 := by have := hwl.1.len; have := hwl.1.le; omega
  obtain ⟨Ax, cx, hAx, hlx, hcx⟩ := hl8f
  injection hAx with e1 _ e3
  subst e1 e3
  cases A8 with
  | none =>
    obtain ⟨g, o, cs, hA, -⟩ := HL8.out.atN (k := 0) hlen
    cases hA
  | some ad =>
  obtain ⟨hty1, cur, hty2⟩ := HTY.out ad _ _ _ rfl
  obtain ⟨g, o, cs0, hA, -, -⟩ := HL8.out.atN (k := 0) hlen
  injection hA with hA
  subst hA
  have hge : w.heap.size ≤ g := by have := HSZ.out; have h : (w7.alloc _).heap.size ≤ g := hty1; simp at h; omega
  have HQ := Lib.hid (show Cmq w fb w8.heap.size g o c8 (W.n : Int) W.l 0 (w8.alloc (.cells #[.slice (some ⟨g, o, none⟩) W.l.length c8, .int .i64 (W.n : Int)] 66)) from by
    have hx := (Ext.refl w8).alloc (.cells #[.slice (some ⟨g, o, none⟩) W.l.length c8, .int .i64 (W.n : Int)] 66)
    refine ⟨HM8.out.ext.trans hx, hx.heap HM8.out.flt, heap_alloc_new w8 _, HM8.out.lof, hge, ⟨hlx, hcx⟩, ⟨cur, hx.heap hty2⟩, fun j x hj => ?_⟩
    obtain ⟨hjl, hj⟩ := List.getElem?_eq_some_iff.1 hj
    subst hj
    obtain ⟨g2, o2, cs, hA, ⟨vs, rfl, hvs⟩, hcell⟩ := HL8.out.atN (k := j) hjl
    injection hA with hA
    injection hA with h1 h2
    subst h1 h2
    exact ⟨vs, fun i u hu => hx.cell (hcell i u hu), hvs.keep hx.keepS, fun h => by omega⟩)
  have HSM := Lib.hid hwl.2.1
  clear hty1 hty2 hge hwl hn HL4 HL5 HL6 HL7 HL45 HL46 HL56 HL47 HL57 HL67 HL8 HTY HSZ HC1 HROW HRO HSA HSB HON HT HOK HWH HWW
  have b0 := HQ.out.b0
  have b1 : (w8.alloc (.cells #[.slice (some ⟨g, o, none⟩) W.l.length c8, .int .i64 (W.n : Int)] 66)).cell? ⟨w8.heap.size, 1, none⟩ = some (.int .i64 (W.n : Int)) := by rw [World.cell?_alloc_new]; rfl
  generalize w8.alloc _ = w9 at HQ b0 b1 ⊢
  generalize w8.heap.size = pb at HQ b0 b1 ⊢
  generalize W.n = wn at HQ b1 hd ⊢
  generalize W.l = il at HQ b0 HC2 hlen hlen3 hlx HSM ⊢
  go_wp2_with fail
  go_loopw [36] (fun x wr => ∃ k : Nat, k ≤ il.length ∧ x = .int .i64 (k : Int) ∧ Cmq w fb pb g o c8 (wn : Int) il k wr) (fun x _ => il.length - (intOf x).toNat)
  case atStart => exact ⟨0, Nat.zero_le _, rfl, HQ.out⟩
  case round =>
    obtain ⟨k, hk, rfl, hq⟩ := hrel
    have HQ := Lib.hid hq
    have b0 := hq.b0
    have r0 := hq.r0
    have r1 := hq.r1
    have f0 := hq.fr 0
    have f1 := hq.fr 1
    have hpg := hq.hpg
    have hgl := hq.hgl
    have hpf : pb ≠ fb := by intro e; have h1 := hq.box; rw [e, hq.flt] at h1; injection h1 with h1; injection h1 with _ h1 _; exact absurd h1 (by decide)
    by_cases hlt : k < il.length
    rotate_left
    · clear hq
      go_wp2_with fail
      refine bodyPost_ret (v := .tuple #[.slice (some ⟨g, o, none⟩) il.length c8, .agg #[.int .i64 0, .int .i64 0]]) (by simp [results, Tryz.results18, go_sem, r0, r1]) rfl ?_
      rw [HC2.out]
      exact ⟨(HQ.out.ext.set (p := ⟨fb, 0, none⟩) HQ.out.lof _).set (p := ⟨fb, 1, none⟩) HQ.out.lof _, _, rfl, (HQ.out.done (by omega)).off HQ.out.flt (fun _ hi => (heap_off hi).trans (heap_off hi))⟩
    obtain ⟨vs, hcell, hvs, -⟩ := hq.els k _ (List.getElem?_eq_getElem hlt)
    have hsm : il[k].set.length ≤ 1000000 := Nat.le_trans (HSM.out _ (List.getElem_mem hlt)) (by decide)
    obtain ⟨i, hi⟩ : ∃ i, il[k] = i := ⟨_, rfl⟩
    rw [hi] at hcell hvs hsm
    have HI := Lib.hid hi
    obtain ⟨As, cs, rfl, -⟩ := id hvs
    have HVS := Lib.hid hvs
    have e0 : wr.cell? ⟨g, o + k * 5, none⟩ = _ := hcell 0 _ rfl
    have e1 := hcell 1 _ rfl
    have e2 := hcell 2 _ rfl
    have e3 := hcell 3 _ rfl
    have e4 := hcell 4 _ rfl
    clear hcell hvs hi hq
    go_upto_region 10 with fail
    have HQ3 := Lib.hid (HQ.out.ext_ ((Ext.refl _).alloc (.cells #[.int .i64 i.op, .int .i64 i.x, .int .i64 i.y, .bool i.neg, .slice As i.set.length cs] 72)))
    have HVS3 := Lib.hid (SlCS.keep HVS.out ((Ext.refl _).alloc (.cells #[.int .i64 i.op, .int .i64 i.x, .int .i64 i.y, .bool i.neg, .slice As i.set.length cs] 72)).keepS)
    have hn0 := heap_alloc_new wr (.cells #[.int .i64 i.op, .int .i64 i.x, .int .i64 i.y, .bool i.neg, .slice As i.set.length cs] 72)
    have e4 := ((Ext.refl wr).alloc (.cells #[.int .i64 i.op, .int .i64 i.x, .int .i64 i.y, .bool i.neg, .slice As i.set.length cs] 72)).cell e4
    clear b0 r0 r1 f0 f1 e0 e1 e2 e3 HQ HVS
    generalize wr.alloc (.cells #[.int .i64 i.op, .int .i64 i.x, .int .i64 i.y, .bool i.neg, .slice As i.set.length cs] 72) = w3 at HQ3 HVS3 hn0 e4 ⊢
    have hgn : g ≠ wr.heap.size := Nat.ne_of_lt hgl
    have hng : wr.heap.size ≠ g := hgn.symm
    have hgp : g ≠ pb := hpg.symm
    generalize wr.heap.size = nb at hn0 hgn hng ⊢
    have b0 := HQ3.out.b0
    have x4 := cell_of_row w3 nb 4 _ _ _ hn0
    have x4 : w3.cell? ⟨nb, 4, none⟩ = some (.slice As i.set.length cs) := x4
    clear hn0
    go_region_held3 (fun w' => w'.cell? ⟨pb, 0, none⟩ = some (.slice (some ⟨g, o, none⟩) il.length c8) ∧ w'.cell? ⟨nb, 4, none⟩ = some (.slice As i.set.length cs))
      (first | go_keep | (go_split_ands; refine ⟨?_, ?_⟩ <;> (refine Ext.cell (by assumption) ?_; assumption)) | (go_split_ands; refine ⟨?_, ?_⟩ <;> (rw [cell_heap (heap_off (by assumption))]; assumption)))
      (go_loud (refine step_setA (S := Nw w) rfl _ _ (by rfl) _ i.set (SlCS.keep HVS3.out ((Ext.refl _).drew).keepS) hsm (by rfl) (by rfl) ?_; intro A5 c5 w5 h5 hx5; have HS5 := Lib.hid (SlB.weaken h5 (show w.heap.size ≤ _ from HQ3.out.ext.size)); have HQ5 := Lib.hid (HQ3.out.ext_ (((Ext.refl _).drew).trans hx5)); have e5 := hx5.cell e4; have f5 := HQ5.out.fg (o + k * 5 + 4); clear h5))
    have HQ6 := Lib.hid (HQ5.out.put hlt (by rw [HI.out]; exact HS5.out))
    go_wp2_with fail
    go_roundw
    case rel => exact ⟨k + 1, by omega, by go_num, HQ6.out⟩
    case measure => simp [intOf]; omega
end Go.Proofs.YtfblkahjefdmaaaGreat
