/- Walks: two programs of regular texts are alike; two texts, one behind the other. -/
import Derived.Test.YtfblkahjefdmaaaGreatSa
import Derived.Test.YtfblkahjefdmaaaGreatPc
import Derived.Test.YtfblkahjefdmaaaGreatQh
import Derived.Test.YtfblkahjefdmaaaGreatPa
import Derived.Test.YtfblkahjefdmaaaGreatPureD
import Derived.Maps.AppendAt
import Derived.Laws.AppendOwnNone
import Derived.Test.YtfblkahjefdmaaaGreatPb
import Derived.BigQuiet
import Derived.IntWalk
namespace Go.Proofs.YtfblkahjefdmaaaGreat
open Go.RowKit

theorem SlR.cut3 {α : Type} {sz : Nat} {R : World → Nat → Nat → α → Prop} {w : World} {A : Option Addr} {n c : Nat} {xs : List α} (h : SlR sz R w (.slice A n c) xs) {i m : Nat} (hi : i ≤ m) (hm : m ≤ xs.length) : SlR sz R w (.slice (cutA A c i sz) (m - i) (c - i)) ((xs.drop i).take (m - i)) := by
  have h2 := h.cut (k := i) (by omega)
  obtain ⟨A', c', hv, hl, hc, hx, hn⟩ := h2
  injection hv with e1 e2 e3
  subst e1 e3
  have hlen : ((xs.drop i).take (m - i)).length = m - i := by rw [List.length_take, List.length_drop]; omega
  refine ⟨cutA A c i sz, c - i, by rw [hlen], by rw [hlen]; rw [List.length_drop] at hl; omega, hc, fun j x hj => ?_, hn⟩
  rw [List.getElem?_take] at hj
  split at hj
  · exact hx j x hj
  · cases hj
/-- Instructions, wherever they lie. -/
abbrev InsT := InsS (fun _ => True)
theorem InsT.ext {w w' : World} {v : Value} {l : List PG.Inst} (h : InsT w v l) (hx : Ext w w') : InsT w' v l := InsS.keep h hx.keepS
theorem SlX.insT {B : Nat} {w : World} {v : Value} {l : List PG.Inst} (h : SlX B w v l) : InsT w v l := by
  obtain ⟨A, c, rfl, h1, h2, h3, h4⟩ := h
  refine ⟨A, c, rfl, h1, h2, fun k x hx => ?_, h3⟩
  cases A with
  | none =>
    have := h3 rfl
    obtain ⟨hk, -⟩ := List.getElem?_eq_some_iff.1 hx
    omega
  | some ad =>
    obtain ⟨g, o, cur, rfl, hB, hg, hc⟩ := h4 ad rfl
    obtain ⟨cs, ⟨vs, rfl, h5⟩, h6⟩ := hc k x hx
    exact ⟨g, o, rfl, trivial, _, ⟨vs, rfl, SlR.mono2 (SlB.slc h5) fun _ _ _ hh => ⟨trivial, hh⟩⟩, rfl, h6⟩
theorem InsT.at_ {w : World} {A : Option Addr} {n c : Nat} {l : List PG.Inst} (h : InsT w (.slice A n c) l) {k : Nat} {x : PG.Inst} (hx : l[k]? = some x) :
    ∃ g o As ns cs, A = some ⟨g, o, none⟩ ∧ SlC w (.slice As ns cs) x.set ∧ ns = x.set.length ∧ ∀ (j : Nat) (u : Value), [Value.int .i64 x.op, .int .i64 x.x, .int .i64 x.y, .bool x.neg, .slice As ns cs][j]? = some u → w.cell? ⟨g, o + k * 5 + j, none⟩ = some u := by
  obtain ⟨b, o, hA, -, cs, ⟨vs, rfl, h1⟩, -, h2⟩ := SlR.at_ h hx
  have h3 : SlC w vs x.set := SlR.mono2 h1 fun _ _ _ hh => hh.2
  obtain ⟨A', c', rfl, -⟩ := id h3
  exact ⟨b, o, A', _, c', hA, h3, rfl, h2⟩
end Go.Proofs.YtfblkahjefdmaaaGreat

/- Words on memory: rows put behind rows; instructions whose sets lie from a block on. -/
namespace Go.Proofs.YtfblkahjefdmaaaGreat
open Go.RowKit

theorem flat_n {n : Nat} : ∀ (css : List (List Value)), (∀ cs ∈ css, cs.length = n) → css.flatten.length = css.length * n ∧ (∀ k i cs u, css[k]? = some cs → cs[i]? = some u → css.flatten[k * n + i]? = some u) ∧ ∀ j u, css.flatten[j]? = some u → ∃ k i cs, j = k * n + i ∧ i < n ∧ css[k]? = some cs ∧ cs[i]? = some u
  | [], _ => ⟨by simp, by intro k i cs u h; simp at h, by intro j u h; simp at h⟩
  | c :: r, h => by
    have hc := h c (by simp)
    obtain ⟨h1, h2, h3⟩ := flat_n r (fun cs hcs => h cs (by simp [hcs]))
    refine ⟨by rw [List.flatten_cons, List.length_append, h1, hc, List.length_cons, Nat.add_mul]; omega, fun k i cs u hk hi => ?_, fun j u hj => ?_⟩
    · have hi5 : i < cs.length := (List.getElem?_eq_some_iff.1 hi).1
      rw [List.flatten_cons]
      cases k with
      | zero =>
        simp at hk
        subst hk
        rw [List.getElem?_append_left (by omega)]
        simpa using hi
      | succ k =>
        have e : (k + 1) * n + i - c.length = k * n + i := by rw [hc, Nat.add_mul]; omega
        rw [List.getElem?_append_right (by rw [hc, Nat.add_mul]; omega), e]
        exact h2 k i cs u (by simpa using hk) hi
    · rw [List.flatten_cons] at hj
      rcases Nat.lt_or_ge j c.length with hlt | hge
      · rw [List.getElem?_append_left hlt] at hj
        exact ⟨0, j, c, by omega, by omega, rfl, hj⟩
      · rw [List.getElem?_append_right hge] at hj
        obtain ⟨k, i, cs, h4, h5, h6, h7⟩ := h3 _ u hj
        exact ⟨k + 1, i, cs, by rw [Nat.add_mul]; omega, h5, by simpa using h6, h7⟩
theorem pick_n {α : Type} {n : Nat} {P : Nat → α → Prop} (h : ∀ k, k < n → ∃ x, P k x) : ∃ l : List α, l.length = n ∧ ∀ k x, l[k]? = some x → P k x := by
  induction n with
  | zero => exact ⟨[], rfl, by intro k x h; simp at h⟩
  | succ n ih =>
    obtain ⟨l, h1, h2⟩ := ih (fun k hk => h k (by omega))
    obtain ⟨x, hx⟩ := h n (by omega)
    refine ⟨l ++ [x], by simp [h1], fun k y hy => ?_⟩
    rcases Nat.lt_or_ge k l.length with hlt | hge
    · rw [List.getElem?_append_left hlt] at hy; exact h2 k y hy
    · rw [List.getElem?_append_right hge] at hy
      have hk : k - l.length = 0 := by
        rcases Nat.eq_zero_or_pos (k - l.length) with e | e
        · exact e
        · rw [List.getElem?_eq_none (by simp; omega)] at hy; cases hy
      rw [hk] at hy
      simp at hy
      subst hy
      have : k = n := by omega
      rw [this]; exact hx
/-- An own row behind an append of others. -/
theorem OwnB.plus {α : Type} {t sz : Nat} {C : World → List Value → α → Prop} {base : Nat} {w w' : World} {v' : Value} {xs ys : List α} {flat : List Value} {css : List (List Value)} {T : List TypeId}
    (h2 : ∀ k x, xs[k]? = some x → ∃ cs, C w cs x ∧ cs.length = sz ∧ ∀ i u, cs[i]? = some u → flat[k * sz + i]? = some u)
    (hl : flat.length = xs.length * sz) (hC : Keeps T C) (hk : KeepT T w w') (hcl : css.length = ys.length) (h5 : ∀ cs ∈ css, cs.length = sz)
    (hy : ∀ (k : Nat) (cs : List Value) (y : α), css[k]? = some cs → ys[k]? = some y → C w cs y) (hown : w'.ownsRow base t sz v' (xs.length + ys.length) (flat ++ css.flatten)) : OwnB t sz C base w' v' (xs ++ ys) := by
  obtain ⟨-, hf, -⟩ := flat_n css h5
  refine ⟨flat ++ css.flatten, by rw [List.length_append]; exact hown, fun k y hky => ?_⟩
  rcases Nat.lt_or_ge k xs.length with hlt | hge
  · rw [List.getElem?_append_left hlt] at hky
    obtain ⟨ds, h3, h4, h6⟩ := h2 k y hky
    refine ⟨ds, hC _ _ _ _ hk h3, h4, fun i u hu => ?_⟩
    have h7 := h6 i u hu
    rw [List.getElem?_append_left]
    · exact h7
    · rcases Nat.lt_or_ge (k * sz + i) flat.length with h | h
      · exact h
      · rw [List.getElem?_eq_none h] at h7; cases h7
  · rw [List.getElem?_append_right hge] at hky
    have hkl : k - xs.length < css.length := by rw [hcl]; exact (List.getElem?_eq_some_iff.1 hky).1
    have hcs := List.getElem?_eq_getElem hkl
    refine ⟨css[k - xs.length], hC _ _ _ _ hk (hy _ _ y hcs hky), h5 _ (List.getElem_mem hkl), fun i u hu => ?_⟩
    have h8 := hf _ i _ u hcs hu
    have e : k * sz = xs.length * sz + (k - xs.length) * sz := by rw [← Nat.add_mul]; congr 1; omega
    rw [List.getElem?_append_right (by omega), show k * sz + i - flat.length = (k - xs.length) * sz + i by omega]
    exact h8
section
variable {α : Type} {P : Program} {w : World} {ops : Array Oper} {rest : List Oper} {o : Oper} {a : Act} {Q : Exit → Act → World → Prop} {K : Act → World → Prop} {E : Prop}
/-- What an append of a row asks. -/
theorem src_cells {te sz B2 : Nat} {C : World → List Value → α → Prop} (hone : ∀ w cs x, C w cs x → cs.length = sz ∧ ∀ u ∈ cs, u.oneCell' = true) {ad : Addr} {n c : Nat} {ys : List α} (hsrc : SlB te sz C B2 w (.slice (some ad) n c) ys) :
    ∃ css : List (List Value), css.length = ys.length ∧ (∀ cs ∈ css, cs.length = sz) ∧ (∀ (k : Nat) (cs : List Value) (y : α), css[k]? = some cs → ys[k]? = some y → C w cs y) ∧ css.flatten.length = ys.length * sz ∧ (∀ (j : Nat) (u : Value), css.flatten[j]? = some u → w.cell? (ad.add j) = some u) ∧ ∀ u ∈ css.flatten, u.oneCell' = true := by
  obtain ⟨A, c', hv, hl, hc, hn, ha⟩ := hsrc
  injection hv with e1 e2 e3
  subst e1 e3
  obtain ⟨g, o, cur, rfl, hb, hg, ho, hx⟩ := ha ad rfl
  obtain ⟨css, hcl, hcs⟩ := pick_n (n := ys.length) (P := fun k cs => ∃ y, ys[k]? = some y ∧ C w cs y ∧ ∀ (i : Nat) (u : Value), cs[i]? = some u → cur[o + k * sz + i]? = some u) (fun k hk => by
    obtain ⟨cs, h1, h2⟩ := hx k _ (List.getElem?_eq_getElem hk)
    exact ⟨cs, _, List.getElem?_eq_getElem hk, h1, h2⟩)
  have h5 : ∀ cs ∈ css, cs.length = sz := by
    intro cs hm
    obtain ⟨k, hk, rfl⟩ := List.mem_iff_getElem.1 hm
    obtain ⟨y, _, h1, _⟩ := hcs k _ (List.getElem?_eq_getElem hk)
    exact (hone _ _ _ h1).1
  obtain ⟨hf1, hf2, hf3⟩ := flat_n css h5
  refine ⟨css, hcl, h5, fun k cs y hk hy => ?_, by rw [hf1, hcl], fun j u hj => ?_, fun u hu => ?_⟩
  · obtain ⟨y', h1, h2, -⟩ := hcs k cs hk
    rw [hy] at h1
    obtain rfl := Option.some.inj h1
    exact h2
  · obtain ⟨k, i, cs, rfl, _, h6, h7⟩ := hf3 j u hj
    obtain ⟨y, _, _, h8⟩ := hcs k cs h6
    have e : (⟨g, o, none⟩ : Addr).add (k * sz + i) = ⟨g, o + k * sz + i, none⟩ := by unfold Addr.add; split <;> simp_all [Nat.add_assoc]
    rw [e]
    exact (cell_of_row w g _ cur te (0, 0) hg).trans (h8 i u h7)
  · obtain ⟨cs, hm, hu⟩ := List.mem_flatten.1 hu
    obtain ⟨k, hk, rfl⟩ := List.mem_iff_getElem.1 hm
    obtain ⟨y, _, h1, _⟩ := hcs k _ (List.getElem?_eq_getElem hk)
    exact (hone _ _ _ h1).2 u hu
/-- append(v, src...) of a row. -/
theorem app_rows {t te sz bytes : Nat} {z : Value} (ht : P.underlying t = some (.slice te)) (hinf : (P.info? te).map (fun i => (i.zero, i.size, i.bytes)) = some (some z, sz, bytes)) (hzs : z.cells.size = sz) (hsz : 0 < sz) (hby : bytes ≤ 1000)
    {T : List TypeId} {C : World → List Value → α → Prop} (hC : Keeps T C) (hT : te ∉ T) (hone : ∀ w cs x, C w cs x → cs.length = sz ∧ ∀ u ∈ cs, u.oneCell' = true)
    (hgd : o.guard = none) (s x : Operand) (ho : o.op = .call { callee := .builtin .append, args := #[s, x], argTypes := #[t, t] })
    (B B2 : Nat) (v src : Value) (xs ys : List α) (hown : OwnB te sz C B w v xs) (hsrc : SlB te sz C B2 w src ys) (hs : a.eval s = v) (hx : a.eval x = src) (hn : xs.length + ys.length ≤ 1000000000) (hB : B ≤ w.heap.size)
    (h : ∀ v' w', OwnB te sz C B w' v' (xs ++ ys) → w.grownBy w' v.ownBlock → wpList P ops Q rest (a.put o.dst v') w') :
    wpList P ops Q (o :: rest) a w := by
  obtain ⟨i0, hi, hz0, hz1, hz2⟩ := info_parts hinf
  obtain ⟨A, c, rfl, hlc, -⟩ := hsrc.form
  cases A with
  | none =>
    obtain ⟨A', c', hv, hl, hc, hn0, -⟩ := hsrc
    injection hv with e1 e2 e3
    subst e1 e3
    obtain rfl := hn0 rfl
    obtain rfl : ys = [] := List.eq_nil_of_length_eq_zero (by omega)
    obtain ⟨flat, hr, h2⟩ := hown
    refine wpList_append_own_none hgd s x t ho B te i0 sz ht hi v xs.length flat hs hr hx ?_
    exact h v w (by rw [List.append_nil]; exact ⟨flat, hr, h2⟩) (World.grownBy.refl _ _)
  | some ad =>
    obtain ⟨flat, hr, h2⟩ := hown
    obtain ⟨css, hcl, h5, hy, hfl, hcell, h1⟩ := src_cells hone hsrc
    refine wpList_append_own_at w hgd s x t ho B te i0 z sz bytes ht hi hz0 hz1 hz2 hzs hsz v xs.length flat hs hr ad ys.length c css.flatten hx hfl hcell h1 (by unfold maxLen; omega) (Nat.le_trans (Nat.mul_le_mul hn hby) (by omega)) hB ?_
    intro v' w' h3 h4 _ _
    refine h v' w' (OwnB.plus h2 hr.1 hC (KeepT.of_grown h4 (fun g hg => ?_)) hcl h5 hy h3) h4
    obtain ⟨cur, hh⟩ := own_type hr g hg
    exact ⟨cur, te, hh, hT⟩
/-- The same, as a step of a region that draws its order; the source is not nothing. -/
theorem step_rows {t te sz bytes : Nat} {z : Value} (ht : P.underlying t = some (.slice te)) (hinf : (P.info? te).map (fun i => (i.zero, i.size, i.bytes)) = some (some z, sz, bytes)) (hzs : z.cells.size = sz) (hsz : 0 < sz) (hby : bytes ≤ 1000)
    {T : List TypeId} {C : World → List Value → α → Prop} (hC : Keeps T C) (hT : te ∉ T) (hone : ∀ w cs x, C w cs x → cs.length = sz ∧ ∀ u ∈ cs, u.oneCell' = true)
    (hgd : o.guard = none) (s x : Operand) (ho : o.op = .call { callee := .builtin .append, args := #[s, x], argTypes := #[t, t] })
    (B B2 : Nat) (v src : Value) (xs ys : List α) (hown : OwnB te sz C B w v xs) (hsrc : SlB te sz C B2 w src ys) (hs : a.eval s = v) (hx : a.eval x = src) (hn : xs.length + ys.length ≤ 1000000000) (hB : B ≤ w.heap.size)
    (h : ∀ v' w', OwnB te sz C B w' v' (xs ++ ys) → w.grownBy w' v.ownBlock → K (a.put o.dst v') w') :
    if Region.wanted o (yielded ops a.tmps) = true then Oper.wp P o a w K Q else E := by
  have hw : Region.wanted o (yielded ops a.tmps) = true := by simp [Region.wanted, hgd]
  rw [if_pos hw]
  obtain ⟨i0, hi, hz0, hz1, hz2⟩ := info_parts hinf
  obtain ⟨A, c, rfl, hlc, -⟩ := hsrc.form
  obtain ⟨flat, hr, h2⟩ := hown
  cases A with
  | none =>
    obtain ⟨A', c', hv, hl, hc, hn0, -⟩ := hsrc
    injection hv with e1 e2 e3
    subst e1 e3
    obtain rfl := hn0 rfl
    obtain rfl : ys = [] := List.eq_nil_of_length_eq_zero (by omega)
    have hrun := run_append_owned_none (P := P) (w := w) B t o.type te i0 sz ht hi v xs.length flat hr
    have hh := h v w (by rw [List.append_nil]; exact ⟨flat, hr, h2⟩) (World.grownBy.refl _ _)
    unfold Oper.wp execOp
    simp only [ho, resolve, invoke, builtin, Sem.run_bind, Sem.run_pure, Result.andThen_ok, List.map_toArray, List.map_cons, List.map_nil, hs, hx, List.length_nil, hrun]
    exact hh
  | some ad =>
    obtain ⟨css, hcl, h5, hy, hfl, hcell, h1⟩ := src_cells hone hsrc
    obtain ⟨v', w', hrun, h3, h4, -⟩ := run_append_own_at (P := P) w B t o.type te i0 z sz bytes ht hi hz0 hz1 hz2 hzs hsz v xs.length flat hr ad ys.length c css.flatten hfl hcell h1 (by unfold maxLen; omega) (Nat.le_trans (Nat.mul_le_mul hn hby) (by omega)) hB
    have hh := h v' w' (OwnB.plus h2 hr.1 hC (KeepT.of_grown h4 (fun g hg => by
      obtain ⟨cur, hh⟩ := own_type hr g hg
      exact ⟨cur, te, hh, hT⟩)) hcl h5 hy h3) h4
    unfold Oper.wp execOp
    simp only [ho, resolve, invoke, builtin, Sem.run_bind, Sem.run_pure, Result.andThen_ok, List.map_toArray, List.map_cons, List.map_nil, hs, hx, hrun]
    exact hh
end
/-- Instructions from a block on, their sets likewise. -/
abbrev SlJ (B : Nat) (w : World) (v : Value) (l : List PG.Inst) : Prop := SlB 72 5 (IcW B) B w v l
abbrev OwnJ (B base : Nat) (w : World) (v : Value) (l : List PG.Inst) : Prop := OwnB 72 5 (IcW B) base w v l
theorem keeps_icw (B : Nat) : Keeps [21] (IcW B) := fun _ _ _ _ hk ⟨vs, h1, h2⟩ => ⟨vs, h1, SlB.keep h2 (keeps_c []) (fun _ _ _ h => by cases h) hk⟩
theorem icw_one {B : Nat} : ∀ (w : World) (cs : List Value) (x : PG.Inst), IcW B w cs x → cs.length = 5 ∧ ∀ u ∈ cs, u.oneCell' = true := by
  rintro w cs x ⟨vs, rfl, h⟩
  obtain ⟨A, c, rfl, -⟩ := h.form
  exact ⟨rfl, by simp [Value.oneCell']⟩
theorem SlJ.ext {B : Nat} {w w' : World} {v : Value} {l : List PG.Inst} (h : SlJ B w v l) (hx : Ext w w') : SlJ B w' v l := h.keep (keeps_icw B) (KeepT.of_ext hx) (KeepT.of_ext hx)
theorem OwnJ.ext {B base : Nat} {w w' : World} {v : Value} {l : List PG.Inst} (h : OwnJ B base w v l) (hx : Ext w w') : OwnJ B base w' v l := h.keepT (keeps_icw B) (KeepT.of_ext hx) (KeepT.of_ext hx)
theorem OwnJ.slj {B base : Nat} {w : World} {v : Value} {l : List PG.Inst} (h : OwnJ B base w v l) (hb : B ≤ base) : SlJ B w v l := h.sl.weaken hb
theorem SlJ.insT {B : Nat} {w : World} {v : Value} {l : List PG.Inst} (h : SlJ B w v l) : InsT w v l := by
  obtain ⟨A, c, rfl, h1, h2, h3, h4⟩ := h
  refine ⟨A, c, rfl, h1, h2, fun k x hx => ?_, h3⟩
  cases A with
  | none =>
    have := h3 rfl
    obtain ⟨hk, -⟩ := List.getElem?_eq_some_iff.1 hx
    omega
  | some ad =>
    obtain ⟨g, o, cur, rfl, hB, hg, -, hc⟩ := h4 ad rfl
    obtain ⟨cs, ⟨vs, rfl, h5⟩, h6⟩ := hc k x hx
    exact ⟨g, o, rfl, trivial, _, ⟨vs, rfl, SlR.mono2 (SlB.slc h5) fun _ _ _ hh => ⟨trivial, hh⟩⟩, rfl, fun j u hu => (cell_of_row w g _ cur _ (0, 0) hg).trans (h6 j u hu)⟩
/-- A row of one instruction that is made in place. -/
theorem OwnJ.lit {B : Nat} {w : World} {i : PG.Inst} {vs : Value} (hs : SlB 21 1 Cc B w vs i.set) :
    OwnJ B w.heap.size (w.alloc (.cells #[.int .i64 i.op, .int .i64 i.x, .int .i64 i.y, .bool i.neg, vs] 72)) (.slice (some ⟨w.heap.size, 0, none⟩) 1 1) [i] := by
  refine OwnB.lit _ [i] w.heap.size 1 rfl rfl (Nat.le_refl _) (by simp) (by simp) ?_
  intro k y hy
  match k, hy with
  | 0, hy =>
    simp at hy; subst hy
    exact ⟨_, ⟨vs, rfl, SlB.keep hs (keeps_c []) (fun _ _ _ h => by cases h) (KeepT.of_ext ((Ext.refl w).alloc _))⟩, rfl, fun j u hu => by simpa using hu⟩
end Go.Proofs.YtfblkahjefdmaaaGreat

/- Walk: end of the document's own programs; where a tree's kids sit. -/
namespace Go.Proofs.YtfblkahjefdmaaaGreat
open Go.RowKit

namespace PG
open RX (ReN)
/-- A tree sits in a row at a place. -/
def Sits (L : List ReN) (i : Nat) (e : Int) (t : List ReN) : Prop := ∃ rest, L.drop i = t ++ rest ∧ RX.Shut e rest
theorem Sits.le {L : List ReN} {i : Nat} {e : Int} {t : List ReN} (h : Sits L i e t) (ht : 0 < t.length) : i + t.length ≤ L.length := by
  obtain ⟨rest, h, -⟩ := h
  have := congrArg List.length h
  rw [List.length_drop, List.length_append] at this
  omega
theorem Sits.at_ {L : List ReN} {i : Nat} {e : Int} {t : List ReN} (h : Sits L i e t) {j : Nat} (hj : j < t.length) : L[i + j]? = some t[j] := by
  obtain ⟨rest, h, -⟩ := h
  rw [← List.getElem?_drop, h, List.getElem?_append_left hj, List.getElem?_eq_getElem hj]
theorem Sits.behind {L : List ReN} {i : Nat} {e : Int} {t : List ReN} (h : Sits L i e t) {y : ReN} (hy : L[i + t.length]? = some y) : y.deep ≤ e := by
  obtain ⟨rest, h, hs⟩ := h
  rw [← List.getElem?_drop, h, List.getElem?_append_right (Nat.le_refl _), Nat.sub_self] at hy
  cases rest with
  | nil => simp at hy
  | cons z r =>
    simp at hy
    subst hy
    exact hs
theorem Sits.deep {L : List ReN} {i : Nat} {e : Int} {t : List ReN} (ht : Tree e t) (h : Sits L i e t) : ∃ x, L[i]? = some x ∧ x.deep = e ∧ ∀ j y, 0 < j → j < t.length → L[i + j]? = some y → e < y.deep := by
  obtain ⟨x, r, rfl, h1, h2⟩ := ht.top
  refine ⟨x, by have := h.at_ (j := 0) (by simp); simpa using this, h1, fun j y h0 hj hy => ?_⟩
  rw [h.at_ hj] at hy
  obtain rfl := Option.some.inj hy
  refine h2 _ ?_
  obtain ⟨j, rfl⟩ : ∃ m, j = m + 1 := ⟨j - 1, by omega⟩
  simp
/-- Where a kid sits. -/
def kpos (i : Nat) (ks : List (List ReN)) (j : Nat) : Nat := i + 1 + (ks.take j).flatten.length
theorem kpos_zero (i : Nat) (ks : List (List ReN)) : kpos i ks 0 = i + 1 := by simp [kpos]
theorem kpos_succ {i : Nat} {ks : List (List ReN)} {j : Nat} (hj : j < ks.length) : kpos i ks (j + 1) = kpos i ks j + ks[j].length := by
  unfold kpos
  rw [List.take_succ_eq_append_getElem hj, List.flatten_append, List.length_append]
  simp; omega
theorem kpos_all (i : Nat) (x : ReN) (ks : List (List ReN)) : kpos i ks ks.length = i + (x :: ks.flatten).length := by
  unfold kpos
  rw [List.take_length, List.length_cons]; omega
theorem kpos_lt {i : Nat} {x : ReN} {ks : List (List ReN)} {j : Nat} (hj : j < ks.length) (hp : ∀ k ∈ ks, 0 < k.length) : kpos i ks j < i + (x :: ks.flatten).length := by
  have h : ks.flatten = (ks.take j).flatten ++ (ks[j] ++ (ks.drop (j + 1)).flatten) := by
    conv => lhs; rw [← List.take_append_drop j ks]
    rw [List.flatten_append, List.drop_eq_getElem_cons hj, List.flatten_cons]
  have := hp _ (List.getElem_mem hj)
  unfold kpos
  rw [List.length_cons, h, List.length_append, List.length_append]; omega
theorem Sits.kid {L : List ReN} {i : Nat} {e : Int} {x : ReN} {ks : List (List ReN)} (h : Sits L i e (x :: ks.flatten)) (hk : ∀ k ∈ ks, Tree (e + 1) k) {j : Nat} (hj : j < ks.length) : Sits L (kpos i ks j) (e + 1) ks[j] := by
  obtain ⟨rest, h, hs⟩ := h
  have hf : ks.flatten = (ks.take j).flatten ++ (ks[j] ++ (ks.drop (j + 1)).flatten) := by
    conv => lhs; rw [← List.take_append_drop j ks]
    rw [List.flatten_append, List.drop_eq_getElem_cons hj, List.flatten_cons]
  refine ⟨(ks.drop (j + 1)).flatten ++ rest, ?_, ?_⟩
  · have h1 : L.drop (i + (1 + (ks.take j).flatten.length)) = ks[j] ++ ((ks.drop (j + 1)).flatten ++ rest) := by
      rw [← List.drop_drop, h, hf]
      rw [show 1 + (ks.take j).flatten.length = (ks.take j).flatten.length + 1 by omega, List.cons_append, List.drop_succ_cons, List.append_assoc, List.drop_left, List.append_assoc]
    rw [← h1]
    congr 1
    unfold kpos; omega
  · rcases hd : ks.drop (j + 1) with _ | ⟨m, ms⟩
    · exact hs.mono (by omega)
    · have hm : m ∈ ks := List.mem_of_mem_drop (by rw [hd]; simp)
      obtain ⟨y, r, rfl, hy, -⟩ := (hk m hm).top
      show y.deep ≤ e + 1
      omega
end PG
set_option maxRecDepth 100000 in
set_option maxHeartbeats 2000000 in
theorem rend_any {B : Nat} {e : Int} {t : List RX.ReN} (ht : PG.Tree e t) (L : List RX.ReN) (v : Value) (w : World) (i : Nat) (hs : SlRe B B w v L) (hl : L.length ≤ 100000000) (hp : PG.Sits L i e t) :
    Calls Tryz.prog 59 #[v, .int .i64 i] w (RetD (.int .i64 ((i + t.length : Nat) : Int)) w) := by
  have hpos := ht.pos
  have hle := hp.le hpos
  obtain ⟨x, hx, hd, hall⟩ := hp.deep ht
  have hbe : ∀ y, L[i + t.length]? = some y → y.deep ≤ e := fun y hy => hp.behind hy
  have HA := Lib.hid hall
  have HB := Lib.hid hbe
  obtain ⟨A, c, rfl, hlc, hcc⟩ := hs.form
  have HS := Lib.hid hs
  obtain ⟨hil, hx⟩ := List.getElem?_eq_some_iff.1 hx
  obtain ⟨g1, o1, cs, rfl, hcr, hcell⟩ := HS.out.at_ hil
  obtain ⟨A1, c1, rfl⟩ := hcr.cells
  have d1 : w.cell? ⟨g1, o1 + i * 7 + 1, none⟩ = _ := hcell 1 _ rfl
  rw [hx, hd] at d1
  clear hcr hcell hs hall hbe hx
  generalize t.length = n at *
  have b2 : (i : Int) < (L.length : Int) := by omega
  have b4 : (0 : Int) ≤ (i : Int) := by omega
  go_enter Tryz.func59, Tryz.ntmps59
  go_upto_region 2 with fail
  go_loopw [5] (fun x w9 => ∃ (k m : Nat), i < k ∧ k ≤ i + n ∧ x = .int .i64 (k : Int) ∧ w9 = w.drewN m) (fun x _ => L.length - (intOf x).toNat)
  case atStart => exact ⟨i + 1, 0, by omega, by omega, by go_num, rfl⟩
  case round =>
    obtain ⟨k, m, hik, hkl, rfl, rfl⟩ := hrel
    by_cases hkn : k < i + n
    · obtain ⟨g2, o2, cs, he, hcr, hcell⟩ := HS.out.at_ (k := k) (by omega)
      injection he with he
      injection he with he1 he2
      subst he1 he2
      obtain ⟨A2, c2, rfl⟩ := hcr.cells
      have d2 : w.cell? ⟨g1, o1 + k * 7 + 1, none⟩ = _ := hcell 1 _ rfl
      have hde := HA.out (k - i) (L[k]'(by omega)) (by omega) (by omega) (by rw [show i + (k - i) = k by omega]; exact List.getElem?_eq_getElem _)
      obtain ⟨E, hE⟩ : ∃ E, (L[k]'(by omega)).deep = E := ⟨_, rfl⟩
      rw [hE] at d2 hde
      clear hcr hcell hE
      have e1 : decide ((k : Int) < (L.length : Int)) = true := by simp; omega
      have b1 : (k : Int) < (L.length : Int) := by omega
      have b3 : (0 : Int) ≤ (k : Int) := by omega
      have e3 : decide (e < E) = true := by simp; omega
      go_upto_region 2 with fail
      go_quiet (fail)
      go_wp2_with fail
      go_roundw
      case rel => exact ⟨k + 1, _, by omega, by omega, by go_num, rfl⟩
      case measure => simp [intOf]; omega
    · obtain rfl : k = i + n := by omega
      by_cases hkt : i + n < L.length
      · obtain ⟨g2, o2, cs, he, hcr, hcell⟩ := HS.out.at_ hkt
        injection he with he
        injection he with he1 he2
        subst he1 he2
        obtain ⟨A2, c2, rfl⟩ := hcr.cells
        have d2 : w.cell? ⟨g1, o1 + (i + n) * 7 + 1, none⟩ = _ := hcell 1 _ rfl
        have hde := HB.out _ (List.getElem?_eq_getElem hkt)
        obtain ⟨E, hE⟩ : ∃ E, (L[i + n]'hkt).deep = E := ⟨_, rfl⟩
        rw [hE] at d2 hde
        clear hcr hcell hE
        have e3 : decide (e < E) = false := by simp; omega
        generalize i + n = k at *
        have e1 : decide ((k : Int) < (L.length : Int)) = true := by simp; omega
        have b1 : (k : Int) < (L.length : Int) := by omega
        have b3 : (0 : Int) ≤ (k : Int) := by omega
        go_upto_region 2 with fail
        go_quiet (fail)
        go_wp2_with fail
        go_ret
        exact ⟨rfl, _, by first | rfl | rw [World.drewN_drewN]⟩
      · generalize i + n = k at *
        have e1 : decide ((k : Int) < (L.length : Int)) = false := by simp; omega
        go_upto_region 2 with fail
        go_quiet (fail)
        go_wp2_with fail
        go_ret
        exact ⟨rfl, _, by first | rfl | rw [World.drewN_drewN]⟩
end Go.Proofs.YtfblkahjefdmaaaGreat

/- Walk: size of the document's own programs. -/
namespace Go.Proofs.YtfblkahjefdmaaaGreat
open Go.RowKit

namespace PG
open RX (ReN)
theorem zsum_snoc (zs : List Nat) (z : Nat) : zsum (zs ++ [z]) = min (zsum zs + z) 100000 := by
  unfold zsum
  rw [List.foldl_append]
  rfl
theorem zsum_le (zs : List Nat) : zsum zs ≤ 100000 := by rw [zsum_eq]; omega
theorem kids_le {ks : List (List ReN)} (h : ∀ k ∈ ks, 0 < k.length) : ks.length ≤ ks.flatten.length := by
  induction ks with
  | nil => simp
  | cons k ks ih =>
    have := h k (by simp)
    have := ih (fun m hm => h m (by simp [hm]))
    rw [List.flatten_cons, List.length_append, List.length_cons]
    omega
theorem sz_hi {e : Int} {t : List ReN} (h : Tree e t) : ∀ n, szT n t ≤ 100002 + 2 * (t.length : Int) := by
  intro n
  cases h with
  | mk e x ks hd hn hks =>
    cases n with
    | zero => show (0 : Int) ≤ _; omega
    | succ n =>
      rw [szT_mk hks]
      have h1 := kids_le (fun k hk => (hks k hk).pos)
      have h2 : (x :: ks.flatten).length = ks.flatten.length + 1 := List.length_cons
      have h3 := zsum_le (ks.map fun l => (szT n l).toNat)
      have h4 : (ks.map fun l => (szT n l).toNat).length = ks.length := List.length_map _
      unfold szN
      rw [h4]
      generalize zsum (ks.map fun l => (szT n l).toNat) = z at h3
      split
      · omega
      split
      · omega
      split
      · omega
      split
      · omega
      split
      · omega
      split
      · split <;> omega
      · omega
end PG
/-- The document's size of a tree that sits in a row. -/
abbrev SizedAt (n : Nat) (e : Int) (t : List RX.ReN) : Prop := ∀ (B : Nat) (L : List RX.ReN) (v : Value) (w : World) (i : Nat), SlRe B B w v L → L.length ≤ 1000000 → PG.Sits L i e t → Calls Tryz.prog 38 #[v, .int .i64 i] w (Ret (.int .i64 (PG.szT n t)) w)
set_option maxRecDepth 100000 in
set_option maxHeartbeats 4000000 in
theorem rsize_step {n : Nat} {e : Int} {x : RX.ReN} {ks : List (List RX.ReN)} (hd : x.deep = e) (hn : PG.NOk x ks) (hks : ∀ k ∈ ks, PG.Tree (e + 1) k) (ih : ∀ k ∈ ks, SizedAt n (e + 1) k) (hln : ks.flatten.length ≤ n) : SizedAt (n + 1) e (x :: ks.flatten) := by
  intro B L v w i hs hl hp
  have htree := PG.Tree.mk e x ks hd hn hks
  have hle := hp.le htree.pos
  obtain ⟨x', hx', -, -⟩ := hp.deep htree
  have hx0 := hp.at_ (j := 0) (by simp)
  simp only [Nat.add_zero, List.getElem_cons_zero] at hx0
  have hm := PG.kids_le (fun k hk => (hks k hk).pos)
  have hml : ks.flatten.length + 1 ≤ 1000000 := by have h2 : (x :: ks.flatten).length = ks.flatten.length + 1 := List.length_cons; omega
  obtain ⟨R, hR⟩ : ∃ R, PG.szT (n + 1) (x :: ks.flatten) = R := ⟨_, rfl⟩
  have HR := Lib.hid (show R = PG.szN x (ks.map fun l => (PG.szT n l).toNat) by rw [← hR, PG.szT_mk hks])
  rw [hR]
  obtain ⟨A, c, rfl, hlc, hcc⟩ := hs.form
  have HS := Lib.hid hs
  have HEND := Lib.hid (fun w' (h : SlRe B B w' (.slice A L.length c) L) => rend_any htree L _ w' i h (by omega) hp)
  have HKD := Lib.hid (fun j (hj : j < ks.length) => hp.kid hks hj)
  have HKE := Lib.hid (fun j (hj : j < ks.length) w' (h : SlRe B B w' (.slice A L.length c) L) => rend_any (hks _ (List.getElem_mem hj)) L _ w' _ h (by omega) (hp.kid hks hj))
  have HKS := Lib.hid (fun j (hj : j < ks.length) w' (h : SlRe B B w' (.slice A L.length c) L) => ih _ (List.getElem_mem hj) B L _ w' _ h hl (hp.kid hks hj))
  have HCL := Lib.hid (fun j (hj : j < ks.length) => PG.sz_cl (hks _ (List.getElem_mem hj)) n (Nat.le_trans (PG.flat_len_le (List.getElem_mem hj)) hln))
  have HHI := Lib.hid (fun j (hj : j < ks.length) => PG.sz_hi (hks _ (List.getElem_mem hj)) n)
  have HKL := Lib.hid (fun j (hj : j < ks.length) => PG.flat_len_le (List.getElem_mem (l := ks) (n := j) hj))
  have HPS := Lib.hid (fun j (hj : j < ks.length) => (PG.kpos_succ (i := i) hj).symm)
  have HPL := Lib.hid (fun j (hj : j < ks.length) => PG.kpos_lt (i := i) (x := x) hj (fun k hk => (hks k hk).pos))
  have HPA := Lib.hid (PG.kpos_all i x ks)
  obtain ⟨hil, hxe⟩ := List.getElem?_eq_some_iff.1 hx0
  obtain ⟨g1, o1, cs, rfl, hcr, hcell⟩ := HS.out.at_ hil
  obtain ⟨A1, c1, rfl⟩ := hcr.cells
  rw [hxe] at hcell
  have HC := Lib.hid hcell
  have HN := Lib.hid hn
  obtain ⟨T, hT⟩ : ∃ T, i + (x :: ks.flatten).length = T := ⟨_, rfl⟩
  rw [hT] at HEND HPL HPA hle
  clear hs hp hR hx' hx0 hcr hcell hn htree hT hln ih hxe
  have b4 : (0 : Int) ≤ (i : Int) := by omega
  have b2 : (i : Int) < (L.length : Int) := by omega
  go_enter Tryz.func38, Tryz.ntmps38
  go_upto_region 3 with fail
  go_loopw [5, 6, 7] (fun a b k wr => ∃ j : Nat, j ≤ ks.length ∧ a = .int .i64 (PG.zsum ((ks.take j).map fun l => (PG.szT n l).toNat) : Nat) ∧ b = .int .i64 j ∧ k = .int .i64 (PG.kpos i ks j : Nat) ∧ Ext w wr) (fun _ b _ _ => ks.length - (intOf b).toNat)
  case atStart => exact ⟨0, Nat.zero_le _, rfl, rfl, by rw [PG.kpos_zero]; go_num, Ext.refl _⟩
  case round =>
    obtain ⟨j, hj, rfl, rfl, rfl, hx⟩ := hrel
    have HX := Lib.hid hx
    have HSW := Lib.hid (SlB.keep HS.out (keeps_re _) (KeepT.of_ext hx) (KeepT.of_ext hx))
    clear hx
    obtain ⟨k, hk⟩ : ∃ k, PG.kpos i ks j = k := ⟨_, rfl⟩
    obtain ⟨z, hz⟩ : ∃ z, PG.zsum ((ks.take j).map fun l => (PG.szT n l).toNat) = z := ⟨_, rfl⟩
    have hz1 : z ≤ 100000 := by rw [← hz]; exact PG.zsum_le _
    have HZ := Lib.hid hz
    have HK := Lib.hid hk
    rw [hk, hz]
    by_cases hlt : j < ks.length
    · have hkT : k < T := by rw [← hk]; exact HPL.out j hlt
      have d1 : decide ((k : Int) < (T : Int)) = true := by simp; omega
      have HKE1 := Lib.hid (HKE.out j hlt)
      have HKS1 := Lib.hid (HKS.out j hlt)
      have hcl := (HCL.out j hlt).1
      have hhi := HHI.out j hlt
      have hkl := HKL.out j hlt
      have HZN := Lib.hid (show PG.zsum ((ks.take (j + 1)).map fun l => (PG.szT n l).toNat) = min (z + (PG.szT n ks[j]).toNat) 100000 by rw [List.take_succ_eq_append_getElem hlt, List.map_append, List.map_cons, List.map_nil, PG.zsum_snoc, HZ.out])
      have HPS1 := Lib.hid (HPS.out j hlt)
      rw [hk] at HKE1 HKS1 HPS1
      rw [HPS1.out] at HKE1
      generalize PG.szT n ks[j] = y at HKS1 hcl hhi HZN
      clear hk hz
      go_upto_region 5 with (go_at_call 59; go_loud (refine (HEND.out _ HSW.out).mono ?_; rintro e w1 ⟨rfl, m1, rfl⟩))
      go_upto_region 6 with (go_at_call 38; go_loud (refine (HKS1.out _ (SlB.keep HSW.out (keeps_re _) (KeepT.of_ext ((Ext.refl _).drewN _)) (KeepT.of_ext ((Ext.refl _).drewN _)))).mono ?_; rintro e w2 ⟨rfl, hx2⟩; have HX2 := Lib.hid (((Ext.refl _).drewN _).trans hx2); clear hx2))
      go_wp2_with (go_at_call 59; go_loud (refine (HKE1.out _ (SlB.keep HSW.out (keeps_re _) (KeepT.of_ext HX2.out) (KeepT.of_ext HX2.out))).mono ?_; rintro e w3 ⟨rfl, m3, rfl⟩))
      go_roundw
      case rel => exact ⟨j + 1, by omega, by rw [HZN.out]; go_num, by go_num, rfl, (HX.out.trans HX2.out).drewN _⟩
      case measure => simp [intOf]; omega
    · obtain rfl : j = ks.length := by omega
      have hkT : k = T := by rw [← hk]; exact HPA.out
      subst hkT
      have HZ2 := Lib.hid (show PG.zsum (ks.map fun l => (PG.szT n l).toNat) = z by rw [← HZ.out, List.take_length])
      have hzl : (ks.map fun l => (PG.szT n l).toNat).length = ks.length := List.length_map _
      have HR2 := Lib.hid (show R = PG.szN x (ks.map fun l => (PG.szT n l).toNat) from HR.out)
      have q0 : wr.cell? ⟨g1, o1 + i * 7, none⟩ = _ := HX.out.cell (HC.out 0 _ rfl)
      have q1 := HX.out.cell (HC.out 1 _ rfl)
      have q2 := HX.out.cell (HC.out 2 _ rfl)
      have q3 := HX.out.cell (HC.out 3 _ rfl)
      have q4 := HX.out.cell (HC.out 4 _ rfl)
      have q5 := HX.out.cell (HC.out 5 _ rfl)
      have q6 := HX.out.cell (HC.out 6 _ rfl)
      have HRR : R = PG.szN x (ks.map fun l => (PG.szT n l).toNat) := HR.out
      unfold PG.szN at HRR
      rw [hzl, HZ2.out] at HRR
      have HR3 := Lib.hid HRR
      have HN1 := HN.out
      obtain ⟨⟨-, hlo0, hlo9, hhi9⟩, hkind⟩ := HN1
      have hkr : x.kind = 6 → x.hi < 0 ∨ x.lo ≤ x.hi := by omega
      have hkind2 : x.kind = 0 ∨ x.kind = 1 ∨ x.kind = 2 ∨ x.kind = 3 ∨ x.kind = 4 ∨ x.kind = 5 ∨ x.kind = 6 := by omega
      clear HRR hzl hk hz HKD HCL HHI HKL HPS HKE HKS HPL HZ HK HPA HZ2 HR2 HR HN HC hkind hlt hj
      generalize ks.length = m at *
      obtain ⟨kind, deep, lo, hi, lazy, neg, set⟩ := x
      dsimp only at *
      go_upto_region 7 with (go_at_call 59; go_loud (refine (HEND.out _ HSW.out).mono ?_; rintro e w1 ⟨rfl, m1, rfl⟩))
      have HX1 := Lib.hid (HX.out.drewN m1)
      replace q0 := ((Ext.refl wr).drewN m1).cell q0
      replace q1 := ((Ext.refl wr).drewN m1).cell q1
      replace q2 := ((Ext.refl wr).drewN m1).cell q2
      replace q3 := ((Ext.refl wr).drewN m1).cell q3
      replace q4 := ((Ext.refl wr).drewN m1).cell q4
      replace q5 := ((Ext.refl wr).drewN m1).cell q5
      replace q6 := ((Ext.refl wr).drewN m1).cell q6
      clear HSW HX
      generalize wr.drewN m1 = w1 at *
      rcases hkind2 with h | h | h | h | h | h | h <;> subst h
      · have HR4 : R = z := by have := HR3.out; simpa using this
        go_loud (go_wp2_with fail); all_goals (go_ret; exact ⟨ret_congr (congrArg (Value.int .i64) (by omega)), HX1.out.alloc _⟩)
      · have HR4 : R = z + 2 * ((m : Int) - 1) := by have := HR3.out; simpa using this
        go_loud (go_wp2_with fail); all_goals (go_ret; exact ⟨ret_congr (congrArg (Value.int .i64) (by omega)), HX1.out.alloc _⟩)
      · have HR4 : R = 1 := by have := HR3.out; simpa using this
        go_loud (go_wp2_with fail); all_goals (go_ret; exact ⟨ret_congr (congrArg (Value.int .i64) (by omega)), HX1.out.alloc _⟩)
      · have HR4 : R = 1 := by have := HR3.out; simpa using this
        go_loud (go_wp2_with fail); all_goals (go_ret; exact ⟨ret_congr (congrArg (Value.int .i64) (by omega)), HX1.out.alloc _⟩)
      · have HR4 : R = 1 := by have := HR3.out; simpa using this
        go_loud (go_wp2_with fail); all_goals (go_ret; exact ⟨ret_congr (congrArg (Value.int .i64) (by omega)), HX1.out.alloc _⟩)
      · by_cases h5 : 0 < lo
        · have HR4 : R = z + 2 := by have := HR3.out; simpa [h5] using this
          go_loud (go_wp2_with fail); all_goals (go_ret; exact ⟨ret_congr (congrArg (Value.int .i64) (by omega)), HX1.out.alloc _⟩)
        · have HR4 : R = z := by have := HR3.out; simpa [h5] using this
          go_loud (go_wp2_with fail); all_goals (go_ret; exact ⟨ret_congr (congrArg (Value.int .i64) (by omega)), HX1.out.alloc _⟩)
      · have p1 : 0 ≤ lo * (z : Int) := Int.mul_nonneg hlo0 (by omega)
        have p2 : lo * (z : Int) ≤ 900000 := Int.le_trans (Int.mul_le_mul hlo9 (show (z : Int) ≤ 100000 by omega) (by omega) (by omega)) (by omega)
        by_cases h6 : hi < 0
        · have HR4 : R = min (lo * z + z + 2) 100000 := by have := HR3.out; simpa [h6] using this
          go_loud (go_wp2_with fail); all_goals (go_ret; exact ⟨ret_congr (congrArg (Value.int .i64) (by omega)), HX1.out.alloc _⟩)
        · have p5 : lo ≤ hi := by have := hkr rfl; omega
          have p3 : 0 ≤ (hi - lo) * ((z : Int) + 1) := Int.mul_nonneg (by omega) (by omega)
          have p4 : (hi - lo) * ((z : Int) + 1) ≤ 1000000 := Int.le_trans (Int.mul_le_mul (show hi - lo ≤ 9 by omega) (show (z : Int) + 1 ≤ 100001 by omega) (by omega) (by omega)) (by omega)
          have HR4 : R = min (lo * z + (hi - lo) * (z + 1)) 100000 := by have := HR3.out; simpa [h6] using this
          go_loud (go_wp2_with fail); all_goals (go_ret; exact ⟨ret_congr (congrArg (Value.int .i64) (by omega)), HX1.out.alloc _⟩)
theorem rsize_tree {e : Int} {t : List RX.ReN} (h : PG.Tree e t) : ∀ n, t.length ≤ n → SizedAt n e t := by
  induction h with
  | mk e x ks hd hn hks ih =>
    intro n hl
    cases n with
    | zero => simp at hl
    | succ n =>
      have h2 : (x :: ks.flatten).length = ks.flatten.length + 1 := List.length_cons
      exact rsize_step hd hn hks (fun k hk => ih k hk n (Nat.le_trans (PG.flat_len_le hk) (by omega))) (by omega)
end Go.Proofs.YtfblkahjefdmaaaGreat
