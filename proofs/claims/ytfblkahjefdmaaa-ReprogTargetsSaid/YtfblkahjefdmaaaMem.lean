/- Typed rows of memory: what blocks of given element types hold is kept; slices of structs; slices of the call's own, appended to. -/
import Derived.Test.YtfblkahjefdmaaaBase
namespace Go.Proofs.Ytfblkahjefdmaaa
open Go.RowKit

/-- Blocks whose element type is among T are as they were. -/
def KeepT (T : List TypeId) (w w' : World) : Prop := ∀ (g : Nat) (cur : Array Value) (t : TypeId), t ∈ T → w.heap[g]? = some (.cells cur t (0, 0)) → w'.heap[g]? = some (.cells cur t (0, 0))
theorem KeepT.refl (T : List TypeId) (w : World) : KeepT T w w := fun _ _ _ _ h => h
theorem KeepT.trans {T : List TypeId} {a b c : World} (h : KeepT T a b) (k : KeepT T b c) : KeepT T a c := fun g cur t ht hg => k g cur t ht (h g cur t ht hg)
theorem KeepT.sub {T T' : List TypeId} {a b : World} (h : KeepT T a b) (hs : ∀ t ∈ T', t ∈ T) : KeepT T' a b := fun g cur t ht hg => h g cur t (hs t ht) hg
theorem KeepT.of_ext {T : List TypeId} {a b : World} (h : Ext a b) : KeepT T a b := fun _ _ _ _ hg => h.heap hg
theorem heap_lt {w : World} {g : Nat} {o : Obj} (h : w.heap[g]? = some o) : g < w.heap.size := by
  rcases Nat.lt_or_ge g w.heap.size with hlt | hge
  · exact hlt
  · rw [Array.getElem?_eq_none hge] at h; cases h
theorem KeepT.of_grown {T : List TypeId} {a b : World} {row : Option Nat} (h : a.grownBy b row) (hr : ∀ g, row = some g → ∃ cur t, a.heap[g]? = some (.cells cur t (0, 0)) ∧ t ∉ T) : KeepT T a b := by
  intro g cur t ht hg
  refine (h.block g (heap_lt hg) ?_).trans hg
  intro e
  obtain ⟨cur', t', h', hn⟩ := hr g e.symm
  rw [hg] at h'
  injection h' with h'
  injection h' with _ h' _
  exact hn (h' ▸ ht)

section
variable {α : Type}
/-- A slice value reads as a list: rows of element type t, sz cells each, in blocks from base on, not frozen. -/
def SlB (t sz : Nat) (C : World → List Value → α → Prop) (base : Nat) (w : World) (v : Value) (xs : List α) : Prop :=
  ∃ A c, v = .slice A xs.length c ∧ xs.length ≤ c ∧ c ≤ 9223372036854775807 ∧ (A = none → c = 0) ∧ ∀ ad, A = some ad → ∃ g o cur, ad = ⟨g, o, none⟩ ∧ base ≤ g ∧ w.heap[g]? = some (.cells cur t (0, 0)) ∧ o + c * sz ≤ cur.size ∧
    ∀ k x, xs[k]? = some x → ∃ cs, C w cs x ∧ ∀ i u, cs[i]? = some u → cur[o + k * sz + i]? = some u

/-- The cells of an element are kept where the types T are. -/
def Keeps (T : List TypeId) (C : World → List Value → α → Prop) : Prop := ∀ w w' cs x, KeepT T w w' → C w cs x → C w' cs x

theorem SlB.nil_ {t sz : Nat} {C : World → List Value → α → Prop} {base : Nat} {w : World} : SlB t sz C base w (.slice none 0 0) [] :=
  ⟨none, 0, rfl, Nat.le_refl _, by omega, fun _ => rfl, by intro ad h; cases h⟩
theorem SlB.keep {t sz : Nat} {C : World → List Value → α → Prop} {base : Nat} {w w' : World} {v : Value} {xs : List α} {T : List TypeId} (h : SlB t sz C base w v xs) (hC : Keeps T C) (hk : KeepT T w w') (ht : KeepT [t] w w') : SlB t sz C base w' v xs := by
  obtain ⟨A, c, hv, hl, hc, hn, ha⟩ := h
  refine ⟨A, c, hv, hl, hc, hn, fun ad had => ?_⟩
  obtain ⟨g, o, cur, h1, h2, h3, h4, h5⟩ := ha ad had
  refine ⟨g, o, cur, h1, h2, ht g cur t (by simp) h3, h4, fun k x hx => ?_⟩
  obtain ⟨cs, h6, h7⟩ := h5 k x hx
  exact ⟨cs, hC _ _ _ _ hk h6, h7⟩
theorem SlB.weaken {t sz : Nat} {C : World → List Value → α → Prop} {base base' : Nat} {w : World} {v : Value} {xs : List α} (h : SlB t sz C base w v xs) (hb : base' ≤ base) : SlB t sz C base' w v xs := by
  obtain ⟨A, c, hv, hl, hc, hn, ha⟩ := h
  refine ⟨A, c, hv, hl, hc, hn, fun ad had => ?_⟩
  obtain ⟨g, o, cur, h1, h2, h3⟩ := ha ad had
  exact ⟨g, o, cur, h1, Nat.le_trans hb h2, h3⟩
theorem SlB.imp {t sz : Nat} {C C' : World → List Value → α → Prop} {base : Nat} {w : World} {v : Value} {xs : List α} (h : SlB t sz C base w v xs) (hC : ∀ cs x, C w cs x → C' w cs x) : SlB t sz C' base w v xs := by
  obtain ⟨A, c, hv, hl, hc, hn, ha⟩ := h
  refine ⟨A, c, hv, hl, hc, hn, fun ad had => ?_⟩
  obtain ⟨g, o, cur, h1, h2, h3, h4, h5⟩ := ha ad had
  refine ⟨g, o, cur, h1, h2, h3, h4, fun k x hx => ?_⟩
  obtain ⟨cs, h6, h7⟩ := h5 k x hx
  exact ⟨cs, hC _ _ h6, h7⟩
theorem SlB.form {t sz : Nat} {C : World → List Value → α → Prop} {base : Nat} {w : World} {v : Value} {xs : List α} (h : SlB t sz C base w v xs) : ∃ A c, v = .slice A xs.length c ∧ xs.length ≤ c ∧ c ≤ 9223372036854775807 := by
  obtain ⟨A, c, hv, hl, hc, _⟩ := h
  exact ⟨A, c, hv, hl, hc⟩
theorem SlB.at_ {t sz : Nat} {C : World → List Value → α → Prop} {base : Nat} {w : World} {A : Option Addr} {n c : Nat} {xs : List α} (h : SlB t sz C base w (.slice A n c) xs) {k : Nat} (hk : k < xs.length) :
    ∃ g o cs, A = some ⟨g, o, none⟩ ∧ C w cs xs[k] ∧ ∀ i u, cs[i]? = some u → w.cell? ⟨g, o + k * sz + i, none⟩ = some u := by
  obtain ⟨A', c', hv, hl, hc, hn, ha⟩ := h
  injection hv with h1 _ _
  subst h1
  cases A with
  | none => have := hn rfl; omega
  | some ad =>
    obtain ⟨g, o, cur, rfl, _, h3, _, h5⟩ := ha ad rfl
    obtain ⟨cs, h6, h7⟩ := h5 k _ (List.getElem?_eq_getElem hk)
    exact ⟨g, o, cs, rfl, h6, fun i u hu => (cell_of_row w g _ cur t (0, 0) h3).trans (h7 i u hu)⟩

/-- A slice of the call's own, by its elements. -/
def OwnB (t sz : Nat) (C : World → List Value → α → Prop) (base : Nat) (w : World) (v : Value) (xs : List α) : Prop :=
  ∃ flat, w.ownsRow base t sz v xs.length flat ∧ ∀ k x, xs[k]? = some x → ∃ cs, C w cs x ∧ cs.length = sz ∧ ∀ i u, cs[i]? = some u → flat[k * sz + i]? = some u

theorem OwnB.nil_ {t sz : Nat} {C : World → List Value → α → Prop} {base : Nat} {w : World} : OwnB t sz C base w (.slice none 0 0) [] :=
  ⟨[], World.ownsRow_nil _ _ _ _, by intro k x hx; simp at hx⟩
theorem OwnB.form {t sz : Nat} {C : World → List Value → α → Prop} {base : Nat} {w : World} {v : Value} {xs : List α} (h : OwnB t sz C base w v xs) : ∃ A c, v = .slice A xs.length c ∧ xs.length ≤ c ∧ c ≤ 9223372036854775807 := by
  obtain ⟨flat, hown, _⟩ := h
  rcases hown.2 with ⟨rfl, h0⟩ | ⟨g, cap, cur, rfl, _, _, hnc, hcm, _⟩
  · exact ⟨none, 0, by rw [h0], by omega, by omega⟩
  · exact ⟨_, cap, rfl, hnc, by unfold maxLen at hcm; omega⟩
theorem OwnB.lt {t sz : Nat} {C : World → List Value → α → Prop} {base : Nat} {w : World} {v : Value} {xs : List α} (h : OwnB t sz C base w v xs) : ∀ k, v.ownBlock = some k → base ≤ k ∧ k < w.heap.size := by
  obtain ⟨flat, hown, _⟩ := h; exact hown.lt
theorem own_type {t sz n base : Nat} {w : World} {v : Value} {flat : List Value} (hown : w.ownsRow base t sz v n flat) : ∀ g, v.ownBlock = some g → ∃ cur, w.heap[g]? = some (.cells cur t (0, 0)) := by
  intro g hg
  rcases hown.2 with ⟨rfl, _⟩ | ⟨g', cap, cur, rfl, _, hh, _⟩
  · simp [Value.ownBlock] at hg
  · simp [Value.ownBlock] at hg; subst hg; exact ⟨cur, hh⟩
theorem OwnB.type {t sz : Nat} {C : World → List Value → α → Prop} {base : Nat} {w : World} {v : Value} {xs : List α} (h : OwnB t sz C base w v xs) : ∀ g, v.ownBlock = some g → ∃ cur, w.heap[g]? = some (.cells cur t (0, 0)) := by
  obtain ⟨flat, hown, _⟩ := h; exact own_type hown
theorem OwnB.keepT {t sz : Nat} {C : World → List Value → α → Prop} {base : Nat} {w w' : World} {v : Value} {xs : List α} {T : List TypeId} (h : OwnB t sz C base w v xs) (hC : Keeps T C) (hk : KeepT T w w') (ht : KeepT [t] w w') : OwnB t sz C base w' v xs := by
  obtain ⟨flat, hown, h2⟩ := h
  refine ⟨flat, ⟨hown.1, ?_⟩, fun k x hx => ?_⟩
  · rcases hown.2 with hn | ⟨g, cap, cur, hv, hb, hg, rest⟩
    · exact .inl hn
    · exact .inr ⟨g, cap, cur, hv, hb, ht g cur t (by simp) hg, rest⟩
  · obtain ⟨cs, h6, h7⟩ := h2 k x hx
    exact ⟨cs, hC _ _ _ _ hk h6, h7⟩
theorem OwnB.sl {t sz : Nat} {C : World → List Value → α → Prop} {base : Nat} {w : World} {v : Value} {xs : List α} (h : OwnB t sz C base w v xs) : SlB t sz C base w v xs := by
  obtain ⟨flat, hown, h2⟩ := h
  rcases hown.2 with ⟨rfl, h0⟩ | ⟨g, cap, cur, rfl, hb, hh, hnc, hcm, hcs, htake⟩
  · have : xs = [] := List.eq_nil_of_length_eq_zero h0
    subst this
    exact SlB.nil_
  · refine ⟨_, cap, rfl, hnc, by unfold maxLen at hcm; omega, (by intro h; cases h), fun ad had => ?_⟩
    obtain rfl := Option.some.inj had
    refine ⟨g, 0, cur, rfl, hb, hh, by rw [hcs]; omega, fun k x hx => ?_⟩
    obtain ⟨cs, h6, h7, h8⟩ := h2 k x hx
    refine ⟨cs, h6, fun i u hu => ?_⟩
    have := h8 i u hu
    rw [← htake, List.getElem?_take] at this
    split at this
    · rw [Nat.zero_add]; simpa using this
    · cases this

/-- A literal slice: the block that the call has just made. -/
theorem OwnB.lit {t sz : Nat} {C : World → List Value → α → Prop} {base : Nat} {w : World} (cells : Array Value) (xs : List α) (nb n : Nat) (hnb : nb = w.heap.size) (hn : n = xs.length) (hb : base ≤ w.heap.size) (hm : xs.length ≤ 1000000) (hs : cells.size = xs.length * sz)
    (h : ∀ k x, xs[k]? = some x → ∃ cs, C (w.alloc (.cells cells t)) cs x ∧ cs.length = sz ∧ ∀ i u, cs[i]? = some u → cells[k * sz + i]? = some u) :
    OwnB t sz C base (w.alloc (.cells cells t)) (.slice (some ⟨nb, 0, none⟩) n n) xs := by
  subst hnb hn
  refine ⟨cells.toList, ⟨by simpa using hs, .inr ⟨w.heap.size, xs.length, cells, rfl, hb, heap_alloc_new w _, Nat.le_refl _, by unfold maxLen; omega, hs, ?_⟩⟩, fun k x hx => ?_⟩
  · rw [← hs, List.take_of_length_le (by simp)]
  · obtain ⟨cs, h1, h2, h3⟩ := h k x hx
    exact ⟨cs, h1, h2, fun i u hu => by simpa using h3 i u hu⟩

theorem OwnB.snoc {t sz : Nat} {C : World → List Value → α → Prop} {base : Nat} {w w' : World} {v' : Value} {xs : List α} {x : α} {flat cs : List Value} {T : List TypeId}
    (h2 : ∀ k x, xs[k]? = some x → ∃ cs, C w cs x ∧ cs.length = sz ∧ ∀ i u, cs[i]? = some u → flat[k * sz + i]? = some u)
    (hl : flat.length = xs.length * sz) (hC : Keeps T C) (hk : KeepT T w w') (hx : C w cs x) (hcs : cs.length = sz) (hown : w'.ownsRow base t sz v' (xs.length + 1) (flat ++ cs)) : OwnB t sz C base w' v' (xs ++ [x]) := by
  refine ⟨flat ++ cs, by rw [List.length_append]; exact hown, fun k y hy => ?_⟩
  rcases Nat.lt_or_ge k xs.length with hlt | hge
  · rw [List.getElem?_append_left hlt] at hy
    obtain ⟨ds, h3, h4, h5⟩ := h2 k y hy
    refine ⟨ds, hC _ _ _ _ hk h3, h4, fun i u hu => ?_⟩
    have h6 := h5 i u hu
    rw [List.getElem?_append_left]
    · exact h6
    · rcases Nat.lt_or_ge (k * sz + i) flat.length with h | h
      · exact h
      · rw [List.getElem?_eq_none h] at h6; cases h6
  · have hk0 : k = xs.length := by
      rcases Nat.lt_or_ge k (xs.length + 1) with h | h
      · omega
      · rw [List.getElem?_eq_none (by simp; omega)] at hy; cases hy
    subst hk0
    rw [List.getElem?_append_right (Nat.le_refl _)] at hy
    simp at hy
    subst hy
    refine ⟨cs, hC _ _ _ _ hk hx, hcs, fun i u hu => ?_⟩
    rw [List.getElem?_append_right (by omega), show xs.length * sz + i - flat.length = i from by omega]
    exact hu
end

theorem news_all (w : World) (cs : List Value) (t : TypeId) : ∀ j x, cs[j]? = some x → (w.alloc (.cells cs.toArray t)).cell? ((⟨w.heap.size, 0, none⟩ : Addr).add j) = some x := by
  intro j x hx
  have : (⟨w.heap.size, 0, none⟩ : Addr).add j = ⟨w.heap.size, j, none⟩ := by unfold Addr.add; split <;> simp_all
  rw [this, World.cell?_alloc_new]
  simpa using hx

section
variable {α : Type} {P : Program} {w : World} {ops : Array Oper} {rest : List Oper} {o : Oper} {a : Act} {Q : Exit → Act → World → Prop}
/-- append(v, x) of one element of cs cells; T: the types on which the elements hang. -/
theorem app_one {t te sz bytes : Nat} {z : Value} (ht : P.underlying t = some (.slice te)) (hinf : (P.info? te).map (fun i => (i.zero, i.size, i.bytes)) = some (some z, sz, bytes)) (hzs : z.cells.size = sz) (hsz : 0 < sz) (hby : bytes ≤ 1000)
    {T : List TypeId} {C : World → List Value → α → Prop} (hC : Keeps T C) (hT : te ∉ T)
    (hgd : o.guard = none) (s x : Operand) (ho : o.op = .call { callee := .builtin .append, args := #[s, x], argTypes := #[t, t] })
    (B : Nat) (v : Value) (xs : List α) (y : α) (cs : List Value) (tb : TypeId) (hown : OwnB te sz C B w v xs) (hy : C w cs y) (hcs : cs.length = sz) (h1 : ∀ u ∈ cs, u.oneCell' = true)
    (hs : a.eval s = v) (nb : Nat) (hx : a.eval x = .slice (some ⟨nb, 0, none⟩) 1 1) (hnb : nb = w.heap.size) (hn : xs.length ≤ 1000000) (hB : B ≤ w.heap.size)
    (h : ∀ v' w', OwnB te sz C B w' v' (xs ++ [y]) → (w.alloc (.cells cs.toArray tb)).grownBy w' v.ownBlock → wpList P ops Q rest (a.put o.dst v') w') :
    wpList P ops Q (o :: rest) a (w.alloc (.cells cs.toArray tb)) := by
  subst hnb
  obtain ⟨i0, hi, hz0, hz1, hz2⟩ := info_parts hinf
  obtain ⟨flat, hr, h2⟩ := hown
  refine wpList_append_own _ hgd s x t ho B te i0 z sz bytes ht hi hz0 hz1 hz2 hzs hsz v xs.length flat hs (World.ownsRow.alloc hr _) ⟨w.heap.size, 0, none⟩ 1 1 cs hx (by omega) (news_all _ _ _) h1 (by unfold maxLen; omega) (Nat.le_trans (Nat.mul_le_mul (show xs.length + 1 ≤ 1000001 by omega) hby) (by omega)) (by simp; omega) ?_
  intro v' w' h3 h4 _
  refine h v' w' (OwnB.snoc h2 hr.1 hC ?_ hy hcs h3) h4
  refine (KeepT.of_ext ((Ext.refl w).alloc _)).trans (KeepT.of_grown h4 (fun g hg => ?_))
  obtain ⟨cur, hh⟩ := own_type hr g hg
  exact ⟨cur, te, ((Ext.refl w).alloc _).heap hh, hT⟩
end
end Go.Proofs.Ytfblkahjefdmaaa
