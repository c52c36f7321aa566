/- Words on memory for Compile of package reprog. -/
import Derived.Test.YtfblkahjefdmaaaPgA
import Derived.Test.YtfblkahjefdmaaaCls
import Derived.Laws.OwnMore
namespace Go.Proofs.Ytfblkahjefdmaaa
open Go.RowKit

/-- append([]rune(nil), set...), of any set, as a step of a region that draws its order. -/
theorem step_setA {S : Nat → Prop} {w : World} {ops : Array Oper} {o : Oper} {a : Act} {K : Act → World → Prop} {Q : Exit → Act → World → Prop} {E : Prop} (hgd : o.guard = none) (s x : Operand)
    (ho : o.op = .call { callee := .builtin .append, args := #[s, x], argTypes := #[23, 23] }) (v : Value) (set : List Int) (hv : SlCS S w v set) (hm : set.length ≤ 1000000) (hs : a.eval s = .slice none 0 0) (hx : a.eval x = v)
    (h : ∀ A cap w', SlB 21 1 Cc w.heap.size w' (.slice A set.length cap) set → Ext w w' → K (a.put o.dst (.slice A set.length cap)) w') :
    if Region.wanted o (yielded ops a.tmps) = true then Oper.wp Try.prog o a w K Q else E := by
  obtain ⟨i0, hi, hz0, hz1, hz2⟩ := info_parts info_c
  have hw : Region.wanted o (yielded ops a.tmps) = true := by simp [Region.wanted, hgd]
  rw [if_pos hw]
  have hnil : w.ownsRow w.heap.size 21 1 (.slice none 0 0) 0 [] := ⟨by simp, .inl ⟨rfl, rfl⟩⟩
  obtain ⟨A, c, rfl, hlc, hcm, hcell, hnone⟩ := hv
  cases A with
  | none =>
    have hc := hnone rfl
    subst hc
    have h0 : set = [] := List.eq_nil_of_length_eq_zero (by omega)
    subst h0
    have hrun := run_append_owned_none (P := Try.prog) (w := w) w.heap.size 23 o.type 21 i0 1 Try.underlying23 hi (.slice none 0 0) 0 [] hnil
    have hh := h none 0 w SlB.nil_ (Ext.refl _)
    unfold Oper.wp execOp
    simp only [ho, resolve, invoke, builtin, Sem.run_bind, Sem.run_pure, Result.andThen_ok, List.map_toArray, List.map_cons, List.map_nil, hs, hx, List.length_nil, hrun]
    exact hh
  | some ad =>
    have hnews : ∀ j u, (set.map (Value.int .i32))[j]? = some u → w.cell? (ad.add j) = some u := cells_map fun j y hy => by
      obtain ⟨b, o, hA, -, hr⟩ := hcell j y hy
      obtain rfl := Option.some.inj hA
      rw [Nat.mul_one] at hr
      have : (⟨b, o, none⟩ : Addr).add j = ⟨b, o + j, none⟩ := by unfold Addr.add; split <;> simp_all
      rw [this]; exact hr
    obtain ⟨v', w', hrun, hown, hgr, -⟩ := run_append_own (P := Try.prog) (w := w) w.heap.size 23 o.type 21 i0 (.int .i32 0) 1 4 Try.underlying23 hi hz0 hz1 hz2 rfl (by decide) (.slice none 0 0) 0 [] hnil ad set.length c (set.map (Value.int .i32)) (by simp) hnews
      (fun u hu => by obtain ⟨y, _, rfl⟩ := List.mem_map.1 hu; rfl) (by unfold maxLen; omega) (by omega) (Nat.le_refl _)
    rw [Nat.zero_add, List.nil_append] at hown
    have hB := OwnB.of_flat_i32 hown
    obtain ⟨A', c', rfl, -⟩ := hB.form
    have hh := h A' c' w' hB.sl ((Ext.refl w).grown hgr (fun k hk => by cases hk))
    unfold Oper.wp execOp
    simp only [ho, resolve, invoke, builtin, Sem.run_bind, Sem.run_pure, Result.andThen_ok, List.map_toArray, List.map_cons, List.map_nil, hs, hx, hrun]
    exact hh

/-- Instructions in new blocks, that may be written; their sets likewise. -/
def IcW (B : Nat) (w : World) (cs : List Value) (i : PG.Inst) : Prop := ∃ vs, cs = [.int .i64 i.op, .int .i64 i.x, .int .i64 i.y, .bool i.neg, vs] ∧ SlB 21 1 Cc B w vs i.set
def SlX (B : Nat) (w : World) (v : Value) (l : List PG.Inst) : Prop := ∃ A c, v = .slice A l.length c ∧ l.length ≤ c ∧ c ≤ 9223372036854775807 ∧ (A = none → c = 0) ∧ ∀ ad, A = some ad → ∃ g o cur, ad = ⟨g, o, none⟩ ∧ B ≤ g ∧ w.heap[g]? = some (.cells cur 53 (0, 0)) ∧
  ∀ k x, l[k]? = some x → ∃ cs, IcW B w cs x ∧ ∀ j u, cs[j]? = some u → w.cell? ⟨g, o + k * 5 + j, none⟩ = some u
theorem SlX.nil_ {B : Nat} {w : World} : SlX B w (.slice none 0 0) [] := ⟨none, 0, rfl, Nat.le_refl _, by omega, fun _ => rfl, by intro ad h; cases h⟩
theorem SlX.form {B : Nat} {w : World} {v : Value} {l : List PG.Inst} (h : SlX B w v l) : ∃ A c, v = .slice A l.length c ∧ l.length ≤ c ∧ c ≤ 9223372036854775807 := by
  obtain ⟨A, c, hv, h1, h2, -⟩ := h
  exact ⟨A, c, hv, h1, h2⟩
theorem SlX.atX {B : Nat} {w : World} {A : Option Addr} {n c : Nat} {l : List PG.Inst} (h : SlX B w (.slice A n c) l) {k : Nat} (hk : k < l.length) :
    ∃ g o vs, A = some ⟨g, o, none⟩ ∧ B ≤ g ∧ (∃ cur, w.heap[g]? = some (.cells cur 53 (0, 0))) ∧ SlB 21 1 Cc B w vs l[k].set ∧ ∀ j u, [Value.int .i64 l[k].op, .int .i64 l[k].x, .int .i64 l[k].y, .bool l[k].neg, vs][j]? = some u → w.cell? ⟨g, o + k * 5 + j, none⟩ = some u := by
  obtain ⟨A', c', hv, h1, h2, h3, h4⟩ := h
  injection hv with e1 e2 e3
  subst e1
  cases A with
  | none => have := h3 rfl; omega
  | some ad =>
    obtain ⟨g, o, cur, rfl, hB, hg, hc⟩ := h4 ad rfl
    obtain ⟨cs, ⟨vs, rfl, h5⟩, h6⟩ := hc k _ (List.getElem?_eq_getElem hk)
    exact ⟨g, o, vs, rfl, hB, ⟨cur, hg⟩, h5, h6⟩
theorem SlX.ext {B : Nat} {w w' : World} {v : Value} {l : List PG.Inst} (h : SlX B w v l) (hx : Ext w w') : SlX B w' v l := by
  obtain ⟨A', c', hv, h1, h2, h3, h4⟩ := h
  refine ⟨A', c', hv, h1, h2, h3, fun ad had => ?_⟩
  obtain ⟨g, o, cur, rfl, hB, hg, hc⟩ := h4 ad had
  refine ⟨g, o, cur, rfl, hB, hx.heap hg, fun k x hk => ?_⟩
  obtain ⟨cs, ⟨vs, rfl, h5⟩, h6⟩ := hc k x hk
  exact ⟨_, ⟨vs, rfl, SlB.keep h5 (keeps_c []) (fun _ _ _ h => by cases h) (KeepT.of_ext hx)⟩, fun j u hu => hx.cell (h6 j u hu)⟩

theorem SlX.off {B fb : Nat} {w w' : World} {v : Value} {l : List PG.Inst} {cs : Array Value} (h : SlX B w v l) (hf : w.heap[fb]? = some (.cells cs 36 (0, 0))) (hw : ∀ i, i ≠ fb → w'.heap[i]? = w.heap[i]?) : SlX B w' v l := by
  have hT : ∀ {g' : Nat} {cur : Array Value} {t : TypeId}, t ≠ 36 → w.heap[g']? = some (.cells cur t (0, 0)) → w'.heap[g']? = some (.cells cur t (0, 0)) := by
    intro g' cur t ht hg
    rw [hw g' (by intro e; rw [e, hf] at hg; injection hg with h1; injection h1 with _ h1 _; exact ht h1.symm)]
    exact hg
  obtain ⟨A', c', hv, h1, h2, h3, h4⟩ := h
  refine ⟨A', c', hv, h1, h2, h3, fun ad had => ?_⟩
  obtain ⟨g, o, cur, rfl, hB, hg, hc⟩ := h4 ad had
  have hg' := hT (by decide) hg
  refine ⟨g, o, cur, rfl, hB, hg', fun k x hk => ?_⟩
  obtain ⟨cs, ⟨vs, rfl, h5⟩, h6⟩ := hc k x hk
  have hk' : KeepT [21] w w' := by
    intro g' cur' t ht hh
    simp at ht
    subst ht
    exact hT (by decide) hh
  exact ⟨_, ⟨vs, rfl, SlB.keep h5 (keeps_c []) (fun _ _ _ h => by cases h) hk'⟩, fun j u hu => by rw [cell_of_row _ g _ _ _ _ hg', ← cell_of_row _ g _ _ _ _ hg]; exact h6 j u hu⟩
/-- Inside of Compile: the fault's box fb, the program's box pb; the sets of k instructions are their own. -/
structure Cmq (w : World) (fb pb g o c : Nat) (n : Int) (l : List PG.Inst) (k : Nat) (wr : World) : Prop where
  ext : Ext w wr
  flt : wr.heap[fb]? = some (.cells #[.int .i64 0, .int .i64 0] 36 (0, 0))
  box : wr.heap[pb]? = some (.cells #[.slice (some ⟨g, o, none⟩) l.length c, .int .i64 n] 103 (0, 0))
  lof : w.heap.size ≤ fb
  log : w.heap.size ≤ g
  len : l.length ≤ c ∧ c ≤ 9223372036854775807
  row : ∃ cur, wr.heap[g]? = some (.cells cur 53 (0, 0))
  els : ∀ (j : Nat) (x : PG.Inst), l[j]? = some x → ∃ vs, (∀ (i : Nat) (u : Value), [Value.int .i64 x.op, .int .i64 x.x, .int .i64 x.y, .bool x.neg, vs][i]? = some u → wr.cell? ⟨g, o + j * 5 + i, none⟩ = some u) ∧ SlCS (Nw w) wr vs x.set ∧ (j < k → SlB 21 1 Cc w.heap.size wr vs x.set)
section
variable {w wr w' : World} {fb pb g o c k : Nat} {n : Int} {l : List PG.Inst}
theorem Cmq.ext_ (h : Cmq w fb pb g o c n l k wr) (hx : Ext wr w') : Cmq w fb pb g o c n l k w' :=
  ⟨h.ext.trans hx, hx.heap h.flt, hx.heap h.box, h.lof, h.log, h.len, let ⟨cur, hg⟩ := h.row; ⟨cur, hx.heap hg⟩, fun j x hj => by
    obtain ⟨vs, h1, h2, h3⟩ := h.els j x hj
    exact ⟨vs, fun i u hu => hx.cell (h1 i u hu), h2.keep hx.keepS, fun hk => SlB.keep (h3 hk) (keeps_c []) (fun _ _ _ h => by cases h) (KeepT.of_ext hx)⟩⟩
theorem Cmq.b0 (h : Cmq w fb pb g o c n l k wr) : wr.cell? ⟨pb, 0, none⟩ = some (.slice (some ⟨g, o, none⟩) l.length c) := cell_of_row wr pb 0 _ _ _ h.box
theorem Cmq.r0 (h : Cmq w fb pb g o c n l k wr) : wr.cell? ⟨fb, 0, none⟩ = some (.int .i64 0) := cell_of_row wr fb 0 _ _ _ h.flt
theorem Cmq.r1 (h : Cmq w fb pb g o c n l k wr) : wr.cell? ⟨fb, 1, none⟩ = some (.int .i64 0) := cell_of_row wr fb 1 _ _ _ h.flt
theorem Cmq.fr (h : Cmq w fb pb g o c n l k wr) (i : Nat) : wr.frozen? ⟨fb, i, none⟩ = false := frozen_of_row wr fb i _ _ h.flt
theorem Cmq.fg (h : Cmq w fb pb g o c n l k wr) (i : Nat) : wr.frozen? ⟨g, i, none⟩ = false := let ⟨_, hg⟩ := h.row; frozen_of_row wr g i _ _ hg
theorem Cmq.hpg (h : Cmq w fb pb g o c n l k wr) : pb ≠ g := by
  obtain ⟨cur, hg⟩ := h.row
  intro e; have h1 := h.box; rw [e, hg] at h1; injection h1 with h1; injection h1 with _ h1 _; exact absurd h1 (by decide)
theorem Cmq.hgl (h : Cmq w fb pb g o c n l k wr) : g < wr.heap.size := let ⟨_, hg⟩ := h.row; heap_lt hg
/-- The set of the next instruction, stored. -/
theorem Cmq.put (h : Cmq w fb pb g o c n l k wr) {A : Option Addr} {m cap : Nat} (hk : k < l.length) (hs : SlB 21 1 Cc w.heap.size wr (.slice A m cap) l[k].set) : Cmq w fb pb g o c n l (k + 1) (wr.setCell ⟨g, o + k * 5 + 4, none⟩ (.slice A m cap)) := by
  obtain ⟨cur, hg⟩ := h.row
  have hfg : fb ≠ g := by intro e; have h1 := h.flt; rw [e, hg] at h1; injection h1 with h1; injection h1 with _ h1 _; exact absurd h1 (by decide)
  have hpg : pb ≠ g := by intro e; have h1 := h.box; rw [e, hg] at h1; injection h1 with h1; injection h1 with _ h1 _; exact absurd h1 (by decide)
  have hset := heap_set (o := o + k * 5 + 4) (u := .slice A m cap) hg
  have hT : KeepT [21] wr (wr.setCell ⟨g, o + k * 5 + 4, none⟩ (.slice A m cap)) := by
    intro g' cur' t ht hg'
    simp at ht
    subst ht
    have hne : g' ≠ g := by intro e; rw [e, hg] at hg'; injection hg' with h1; injection h1 with _ h1 _; exact absurd h1 (by decide)
    rw [heap_off hne]; exact hg'
  obtain ⟨vk, hk1, hk2, -⟩ := h.els k _ (List.getElem?_eq_getElem hk)
  have hk4 := hk1 4 vk rfl
  obtain ⟨Ak, ck, rfl, -⟩ := id hk2
  have hoff : ∀ i, i ≠ o + k * 5 + 4 → (wr.setCell ⟨g, o + k * 5 + 4, none⟩ (.slice A m cap)).cell? ⟨g, i, none⟩ = wr.cell? ⟨g, i, none⟩ := by
    intro i hi
    rw [cell_of_row _ g i _ _ _ hset, cell_of_row _ g i _ _ _ hg, Array.getElem?_setIfInBounds]
    rw [if_neg (Ne.symm hi)]
  have hS : ∀ {vs : Value} {set : List Int}, SlCS (Nw w) wr vs set → SlCS (Nw w) (wr.setCell ⟨g, o + k * 5 + 4, none⟩ (.slice A m cap)) vs set := by
    intro vs set hvs
    refine SlR.mono2 hvs fun b i x hx => ⟨hx.1, ?_⟩
    by_cases hb : b = g
    · subst hb
      have hi : i ≠ o + k * 5 + 4 := by
        intro e
        subst e
        rw [hx.2] at hk4
        cases hk4
      rw [hoff i hi]; exact hx.2
    · rw [cell_heap (heap_off hb)]; exact hx.2
  refine ⟨h.ext.set (p := ⟨g, o + k * 5 + 4, none⟩) h.log _, (heap_off hfg).trans h.flt, (heap_off hpg).trans h.box, h.lof, h.log, h.len, ⟨_, hset⟩, fun j x hj => ?_⟩
  by_cases hjk : j = k
  · subst hjk
    rw [List.getElem?_eq_getElem hk] at hj
    obtain rfl := Option.some.inj hj
    have hsz : o + j * 5 + 4 < cur.size := by
      rw [cell_of_row _ g _ _ _ _ hg] at hk4
      rcases Nat.lt_or_ge (o + j * 5 + 4) cur.size with h | h
      · exact h
      · rw [Array.getElem?_eq_none h] at hk4; cases hk4
    have hnew : (wr.setCell ⟨g, o + j * 5 + 4, none⟩ (.slice A m cap)).cell? ⟨g, o + j * 5 + 4, none⟩ = some (.slice A m cap) := by
      rw [cell_of_row _ g _ _ _ _ hset, Array.getElem?_setIfInBounds, if_pos rfl, if_pos hsz]
    have hBk := SlB.keep hs (keeps_c []) (fun _ _ _ h => by cases h) hT
    refine ⟨.slice A m cap, fun i u hu => ?_, ?_, fun _ => hBk⟩
    · match i, hu with
      | 0, hu => rw [hoff _ (by omega)]; exact hk1 0 u hu
      | 1, hu => rw [hoff _ (by omega)]; exact hk1 1 u hu
      | 2, hu => rw [hoff _ (by omega)]; exact hk1 2 u hu
      | 3, hu => rw [hoff _ (by omega)]; exact hk1 3 u hu
      | 4, hu => simp at hu; rw [← hu]; exact hnew
      | i + 5, hu => simp at hu
    · obtain ⟨A', c', hv, h1, h2, h3, h4⟩ := hBk
      refine ⟨A', c', hv, h1, h2, fun i x hx => ?_, h3⟩
      cases A' with
      | none =>
        have := h3 rfl
        obtain ⟨hi, -⟩ := List.getElem?_eq_some_iff.1 hx
        omega
      | some ad =>
        obtain ⟨b, q, cur', rfl, hb, hh, -, h5⟩ := h4 ad rfl
        obtain ⟨cs, h6, h7⟩ := h5 i x hx
        refine ⟨b, q, rfl, hb, ?_⟩
        rw [cell_of_row _ b _ _ _ _ hh]
        have h8 : cs = [.int .i32 x] := h6
        subst h8
        exact h7 0 _ rfl
  · obtain ⟨vs, h1, h2, h3⟩ := h.els j x hj
    refine ⟨vs, fun i u hu => ?_, hS h2, fun hlt => SlB.keep (h3 (by omega)) (keeps_c []) (fun _ _ _ h => by cases h) hT⟩
    have hi : i < 5 := by
      rcases Nat.lt_or_ge i 5 with h | h
      · exact h
      · rw [List.getElem?_eq_none (by simpa using h)] at hu; cases hu
    rw [hoff _ (by omega)]
    exact h1 i u hu
theorem Cmq.done (h : Cmq w fb pb g o c n l k wr) (hk : l.length ≤ k) : SlX w.heap.size wr (.slice (some ⟨g, o, none⟩) l.length c) l := by
  obtain ⟨cur, hg⟩ := h.row
  refine ⟨_, c, rfl, h.len.1, h.len.2, (by intro e; cases e), fun ad had => ?_⟩
  obtain rfl := Option.some.inj had
  refine ⟨g, o, cur, rfl, h.log, hg, fun j x hj => ?_⟩
  obtain ⟨vs, h1, h2, h3⟩ := h.els j x hj
  obtain ⟨hjl, -⟩ := List.getElem?_eq_some_iff.1 hj
  exact ⟨_, ⟨vs, rfl, h3 (by omega)⟩, h1⟩
end
/-- Inside of Compile, ahead of the program: the result's fault. -/
structure Cmr (w : World) (fb : Nat) (wr : World) : Prop where
  ext : Ext w wr
  lof : w.heap.size ≤ fb
  flt : wr.heap[fb]? = some (.cells #[.int .i64 0, .int .i64 0] 36 (0, 0))
section
variable {w wr w' : World} {fb : Nat}
theorem Cmr.ext_ (h : Cmr w fb wr) (hx : Ext wr w') : Cmr w fb w' := ⟨h.ext.trans hx, h.lof, hx.heap h.flt⟩
theorem Cmr.r0 (h : Cmr w fb wr) : wr.cell? ⟨fb, 0, none⟩ = some (.int .i64 0) := cell_of_row wr fb 0 _ _ _ h.flt
theorem Cmr.r1 (h : Cmr w fb wr) : wr.cell? ⟨fb, 1, none⟩ = some (.int .i64 0) := cell_of_row wr fb 1 _ _ _ h.flt
theorem Cmr.fr (h : Cmr w fb wr) (i : Nat) : wr.frozen? ⟨fb, i, none⟩ = false := frozen_of_row wr fb i _ _ h.flt
theorem Cmr.new (h : Cmr w fb wr) : NewIn (Nw w) wr := newIn_le h.ext.size
end
end Go.Proofs.Ytfblkahjefdmaaa
