/- Words on memory for all walks of this seat: what a call leaves alone (Ext), what a slice reads as (SlR), what a call owns (OwnR). -/
import Derived.Test.YtfblkahjefdmaaaRows
import Derived.WalkKit
import Derived.WalkSpells
import Derived.WalkLawsBesides
import Derived.BigQuiet
import Derived.Deep.QuietTactic
import Derived.Deep.AppendLies
import Derived.Deep.LoopGhost
import Derived.Laws.AppendOwnNone
import Derived.Lib.Hide
namespace Go.Proofs.Ytfblkahjefdmaaa
open Go.RowKit

/-- Everything that was there is as it was. -/
def Ext (w w' : World) : Prop := Below w.heap.size w w'
theorem Ext.refl (w : World) : Ext w w := Below.refl _ _
theorem Ext.size {a b : World} (h : Ext a b) : a.heap.size ≤ b.heap.size := Below.size h
theorem Ext.trans {a b c : World} (h : Ext a b) (k : Ext b c) : Ext a c := Below.trans h (Below.mono k h.size)
theorem Ext.drew {a b : World} (h : Ext a b) : Ext a b.drew := Below.drew h
theorem Ext.drewN {a b : World} (h : Ext a b) (n : Nat) : Ext a (b.drewN n) := below_drewN h n
theorem Ext.alloc {a b : World} (h : Ext a b) (o : Obj) : Ext a (b.alloc o) := Below.alloc h h.size o
theorem Ext.set {a b : World} (h : Ext a b) {p : Addr} (hp : a.heap.size ≤ p.block) (u : Value) : Ext a (b.setCell p u) := Below.setCell h hp u
theorem Ext.grown {a b c : World} (h : Ext a b) {row : Option Nat} (hg : b.grownBy c row) (hr : ∀ k, row = some k → a.heap.size ≤ k) : Ext a c := Below.grown h hg h.size hr
theorem Ext.cell {w w' : World} (h : Ext w w') {a : Addr} {v : Value} (hc : w.cell? a = some v) : w'.cell? a = some v :=
  (Below.cell h (World.block_lt_of_cell? w a hc)).trans hc
theorem Ext.heap {w w' : World} (h : Ext w w') {g : Nat} {o : Obj} (hc : w.heap[g]? = some o) : w'.heap[g]? = some o := by
  have hg : g < w.heap.size := by
    rcases Nat.lt_or_ge g w.heap.size with hlt | hge
    · exact hlt
    · rw [Array.getElem?_eq_none hge] at hc; cases hc
  exact (Below.block h g hg).trans hc
theorem Ext.own {w w' : World} (h : Ext w w') {base : Nat} {e : TypeId} {size : Nat} {v : Value} {n : Nat} {xs : List Value} (ho : w.ownsRow base e size v n xs) : w'.ownsRow base e size v n xs := by
  refine ⟨ho.1, ?_⟩
  rcases ho.2 with hn | ⟨g, cap, cur, hv, hb, hg, rest⟩
  · exact .inl hn
  · exact .inr ⟨g, cap, cur, hv, hb, h.heap hg, rest⟩

/-- The call returned v, and left what was there as it was. -/
def Ret (v : Value) (w : World) (e : Ending) (w' : World) : Prop := e = .returned v ∧ Ext w w'
/-- The call returned something of which R holds in the world behind it. -/
def RetP (R : World → Value → Prop) (w : World) (e : Ending) (w' : World) : Prop := ∃ v, e = .returned v ∧ R w' v ∧ Ext w w'
/-- Two results. -/
def RetP2 (R : World → Value → Value → Prop) (w : World) (e : Ending) (w' : World) : Prop := ∃ v u, e = .returned (.tuple #[v, u]) ∧ R w' v u ∧ Ext w w'
def RetP3 (R : World → Value → Value → Value → Prop) (w : World) (e : Ending) (w' : World) : Prop := ∃ v u x, e = .returned (.tuple #[v, u, x]) ∧ R w' v u x ∧ Ext w w'

theorem ret_congr {u v : Value} (h : u = v) : Ending.returned u = .returned v := by rw [h]

/-- What lies at a place: one cell. -/
def AtI64 (w : World) (b o : Nat) (x : Int) : Prop := w.cell? ⟨b, o, none⟩ = some (.int .i64 x)
def AtI32 (w : World) (b o : Nat) (x : Int) : Prop := w.cell? ⟨b, o, none⟩ = some (.int .i32 x)

/-- A slice value reads as a list; sz: the cells of an element. -/
def SlR {α : Type} (sz : Nat) (R : World → Nat → Nat → α → Prop) (w : World) (v : Value) (xs : List α) : Prop :=
  ∃ A c, v = .slice A xs.length c ∧ xs.length ≤ c ∧ c ≤ 9223372036854775807 ∧ (∀ k x, xs[k]? = some x → ∃ b o, A = some ⟨b, o, none⟩ ∧ R w b (o + k * sz) x) ∧ (A = none → c = 0)

abbrev SlI := @SlR Int 1 AtI64
abbrev SlC := @SlR Int 1 AtI32

theorem SlR.mono {α : Type} {sz : Nat} {R : World → Nat → Nat → α → Prop} {w w' : World} {v : Value} {xs : List α} (h : SlR sz R w v xs)
    (hR : ∀ b o x, R w b o x → R w' b o x) : SlR sz R w' v xs := by
  obtain ⟨A, c, hv, hl, hc, hk, hn⟩ := h
  exact ⟨A, c, hv, hl, hc, fun k x hx => let ⟨b, o, hA, hr⟩ := hk k x hx; ⟨b, o, hA, hR _ _ _ hr⟩, hn⟩
theorem SlI.ext {w w' : World} {v : Value} {xs : List Int} (h : SlI w v xs) (he : Ext w w') : SlI w' v xs := h.mono fun _ _ _ hx => he.cell hx
theorem SlC.ext {w w' : World} {v : Value} {xs : List Int} (h : SlC w v xs) (he : Ext w w') : SlC w' v xs := h.mono fun _ _ _ hx => he.cell hx
theorem SlR.nil_ {α : Type} {sz : Nat} {R : World → Nat → Nat → α → Prop} {w : World} : SlR sz R w (.slice none 0 0) ([] : List α) :=
  ⟨none, 0, rfl, Nat.le_refl _, by omega, by intro k x hx; simp at hx, fun _ => rfl⟩

theorem SlR.at_ {α : Type} {sz : Nat} {R : World → Nat → Nat → α → Prop} {w : World} {A : Option Addr} {n c : Nat} {xs : List α} (h : SlR sz R w (.slice A n c) xs) {k : Nat} {x : α} (hx : xs[k]? = some x) :
    ∃ b o, A = some ⟨b, o, none⟩ ∧ R w b (o + k * sz) x := by
  obtain ⟨A', c', hv, _, _, hk, _⟩ := h
  injection hv with h1 _ _
  subst h1
  exact hk k x hx
theorem SlI.at_ {w : World} {A : Option Addr} {n c : Nat} {xs : List Int} (h : SlI w (.slice A n c) xs) {k : Nat} (hk : k < xs.length) : ∃ b o, A = some ⟨b, o, none⟩ ∧ w.cell? ⟨b, o + k, none⟩ = some (.int .i64 xs[k]) := by
  obtain ⟨b, o, hA, hr⟩ := SlR.at_ h (List.getElem?_eq_getElem hk)
  rw [Nat.mul_one] at hr; exact ⟨b, o, hA, hr⟩
theorem SlC.at_ {w : World} {A : Option Addr} {n c : Nat} {xs : List Int} (h : SlC w (.slice A n c) xs) {k : Nat} (hk : k < xs.length) : ∃ b o, A = some ⟨b, o, none⟩ ∧ w.cell? ⟨b, o + k, none⟩ = some (.int .i32 xs[k]) := by
  obtain ⟨b, o, hA, hr⟩ := SlR.at_ h (List.getElem?_eq_getElem hk)
  rw [Nat.mul_one] at hr; exact ⟨b, o, hA, hr⟩

/-- A slice of the call's own, of one-cell elements. -/
abbrev OwnI (w : World) (base e : Nat) (v : Value) (xs : List Int) : Prop := w.ownsRow base e 1 v xs.length (xs.map (Value.int .i64))
abbrev OwnC (w : World) (base e : Nat) (v : Value) (xs : List Int) : Prop := w.ownsRow base e 1 v xs.length (xs.map (Value.int .i32))

theorem own_cell {w : World} {base e size n : Nat} {g cap : Nat} {xs : List Value} (h : w.ownsRow base e size (.slice (some ⟨g, 0, none⟩) n cap) n xs) {j : Nat} {u : Value} (hu : xs[j]? = some u) : w.cell? ⟨g, j, none⟩ = some u := by
  have hj : j < n * size := by
    rw [← h.1]
    rcases Nat.lt_or_ge j xs.length with hlt | hge
    · exact hlt
    · rw [List.getElem?_eq_none hge] at hu; cases hu
  rw [h.cellAt j hj]; exact hu

theorem own_sl1 {k : IntKind} {w : World} {base e : Nat} {v : Value} {xs : List Int} (h : w.ownsRow base e 1 v xs.length (xs.map (Value.int k))) :
    SlR 1 (fun w b o x => w.cell? ⟨b, o, none⟩ = some (.int k x)) w v xs := by
  rcases h.2 with ⟨rfl, h0⟩ | ⟨g, cap, cur, rfl, _, _, hnc, hcm, _⟩
  · have : xs = [] := List.eq_nil_of_length_eq_zero h0
    subst this
    exact SlR.nil_
  · refine ⟨_, cap, rfl, hnc, by unfold maxLen at hcm; omega, fun j x hx => ⟨g, 0, rfl, ?_⟩, by intro h; cases h⟩
    rw [show 0 + j * 1 = j from by omega]
    exact own_cell h (by rw [List.getElem?_map, hx]; rfl)
theorem OwnI.sl {w : World} {base e : Nat} {v : Value} {xs : List Int} (h : OwnI w base e v xs) : SlI w v xs := own_sl1 h
theorem OwnC.sl {w : World} {base e : Nat} {v : Value} {xs : List Int} (h : OwnC w base e v xs) : SlC w v xs := own_sl1 h

/-- The address of a cut slice: behind a name that the walk does not open. -/
def cutA (A : Option Addr) (c k sz : Nat) : Option Addr := if c = k then A else A.map (·.add (k * sz))
theorem run_sl_lo {P : Program} {t e : TypeId} {i : TypeInfo} (ht : P.underlying t = some (.slice e)) (hi : P.info? e = some i) (A : Option Addr) {n c k : Nat} (hk : k ≤ n) (W : World) :
    (Instr.slice t (.slice A n c) (some (.int .i64 (k : Int))) none none).run P W = .ok (.slice (cutA A c k i.size) (n - k) (c - k)) W := by
  have h1 : (k : Int) ≤ n := by omega
  simp [Instr.slice, Instr.sliceBounds, run_underlying ht, sizeOf, typeInfo, hi, run_sliceBound, h1, cutA]
theorem run_sl_both {P : Program} {t e : TypeId} {i : TypeInfo} (ht : P.underlying t = some (.slice e)) (hi : P.info? e = some i) (A : Option Addr) {n c k m : Nat} (hk : k ≤ m) (hm : m ≤ c) (W : World) :
    (Instr.slice t (.slice A n c) (some (.int .i64 (k : Int))) (some (.int .i64 (m : Int))) none).run P W = .ok (.slice (cutA A c k i.size) (m - k) (c - k)) W := by
  have h1 : (k : Int) ≤ m := by omega
  have h2 : (m : Int) ≤ c := by omega
  simp [Instr.slice, Instr.sliceBounds, run_underlying ht, sizeOf, typeInfo, hi, run_sliceBound, h1, h2, cutA]
theorem SlR.cut {α : Type} {sz : Nat} {R : World → Nat → Nat → α → Prop} {w : World} {A : Option Addr} {n c : Nat} {xs : List α} (h : SlR sz R w (.slice A n c) xs) {k : Nat} (hk : k ≤ xs.length) :
    SlR sz R w (.slice (cutA A c k sz) (n - k) (c - k)) (xs.drop k) := by
  obtain ⟨A', c', hv, hl, hc, hx, hn⟩ := h
  injection hv with h1 h2 h3
  subst h1 h2 h3
  refine ⟨_, _, by rw [List.length_drop], by rw [List.length_drop]; omega, by omega, ?_, ?_⟩
  · intro j x hj
    have hjl : k + j < xs.length := by
      rcases Nat.lt_or_ge (k + j) xs.length with h | h
      · exact h
      · rw [List.getElem?_drop, List.getElem?_eq_none h] at hj; cases hj
    rw [List.getElem?_drop] at hj
    obtain ⟨b, o, rfl, hr⟩ := hx _ x hj
    unfold cutA
    rw [if_neg (by omega)]
    refine ⟨b, o + k * sz, ?_, by rw [Nat.add_assoc, ← Nat.add_mul]; exact hr⟩
    simp only [Option.map_some, Addr.add]
    split
    · rename_i h; rw [h]; rfl
    · rfl
  · intro hA
    unfold cutA at hA
    split at hA
    · have := hn hA; omega
    · cases A with
      | none => have := hn rfl; omega
      | some _ => cases hA

/-- The new box of one element, as the laws on append ask it. -/
theorem news_one (w : World) (u : Value) (t : TypeId) : ∀ j x, [u][j]? = some x → (w.alloc (.cells #[u] t)).cell? ((⟨w.heap.size, 0, none⟩ : Addr).add j) = some x := by
  intro j x hx
  match j, hx with
  | 0, hx => simp at hx; subst hx; simp [Addr.add]
theorem one_int {k : IntKind} {x : Int} : ∀ u ∈ [Value.int k x], u.oneCell' = true := by intro u hu; simp at hu; subst hu; rfl

end Go.Proofs.Ytfblkahjefdmaaa
