/- For ResynMadeS: what the texts XBase XSigns XMem XSort XRdr XUnder of wip/tpl say. -/
import Derived.Test.YtpcdknfmgacggaaRows
import Derived.Test.YtpcdknfmgacggaaA
import Derived.WalkKit
import Derived.WalkSpells
import Derived.WalkLawsBesides
import Derived.BigQuiet
import Derived.Deep.QuietTactic
import Derived.Deep.AppendLies
import Derived.Deep.LoopGhost
import Derived.Laws.AppendOwnNone
import Derived.Lib.Hide
set_option maxRecDepth 100000
set_option maxHeartbeats 1000000
namespace Go.Proofs.Ytpcdknfmgacggaa
open Go.RowKit
/-- Everything that was there is as it was. -/
def Ext (w w' : World) : Prop := Below w.heap.size w w'
theorem Ext.refl (w : World) : Ext w w := Below.refl _ _
theorem Ext.size {a b : World} (h : Ext a b) : a.heap.size ≤ b.heap.size := Below.size h
theorem Ext.trans {a b c : World} (h : Ext a b) (k : Ext b c) : Ext a c := Below.trans h (Below.mono k h.size)
theorem Ext.drew {a b : World} (h : Ext a b) : Ext a b.drew := Below.drew h
theorem Ext.drewN {a b : World} (h : Ext a b) (n : Nat) : Ext a (b.drewN n) := below_drewN h n
theorem Ext.alloc {a b : World} (h : Ext a b) (o : Obj) : Ext a (b.alloc o) := Below.alloc h h.size o
theorem Ext.set {a b : World} (h : Ext a b) {p : Addr} (hp : a.heap.size ≤ p.block) (u : Value) : Ext a (b.setCell p u) := Below.setCell h hp u
theorem Ext.grown {a b c : World} (h : Ext a b) {row : Option Nat} (hg : b.grownBy c row) (hr : ∀ k, row = some k → a.heap.size ≤ k) : Ext a c := Below.grown h hg h.size hr
theorem Ext.cell {w w' : World} (h : Ext w w') {a : Addr} {v : Value} (hc : w.cell? a = some v) : w'.cell? a = some v :=
  (Below.cell h (World.block_lt_of_cell? w a hc)).trans hc
theorem Ext.heap {w w' : World} (h : Ext w w') {g : Nat} {o : Obj} (hc : w.heap[g]? = some o) : w'.heap[g]? = some o := by
  have hg : g < w.heap.size := by
    rcases Nat.lt_or_ge g w.heap.size with hlt | hge
    · exact hlt
    · rw [Array.getElem?_eq_none hge] at hc; cases hc
  exact (Below.block h g hg).trans hc
theorem Ext.own {w w' : World} (h : Ext w w') {base : Nat} {e : TypeId} {size : Nat} {v : Value} {n : Nat} {xs : List Value} (ho : w.ownsRow base e size v n xs) : w'.ownsRow base e size v n xs := by
  refine ⟨ho.1, ?_⟩
  rcases ho.2 with hn | ⟨g, cap, cur, hv, hb, hg, rest⟩
  · exact .inl hn
  · exact .inr ⟨g, cap, cur, hv, hb, h.heap hg, rest⟩
/-- The call returned v, and left what was there as it was. -/
def Ret (v : Value) (w : World) (e : Ending) (w' : World) : Prop := e = .returned v ∧ Ext w w'
/-- The call returned something of which R holds in the world behind it. -/
def RetP (R : World → Value → Prop) (w : World) (e : Ending) (w' : World) : Prop := ∃ v, e = .returned v ∧ R w' v ∧ Ext w w'
/-- Two results. -/
def RetP2 (R : World → Value → Value → Prop) (w : World) (e : Ending) (w' : World) : Prop := ∃ v u, e = .returned (.tuple #[v, u]) ∧ R w' v u ∧ Ext w w'
def RetP3 (R : World → Value → Value → Value → Prop) (w : World) (e : Ending) (w' : World) : Prop := ∃ v u x, e = .returned (.tuple #[v, u, x]) ∧ R w' v u x ∧ Ext w w'
theorem ret_congr {u v : Value} (h : u = v) : Ending.returned u = .returned v := by rw [h]
/-- What lies at a place: one cell. -/
def AtI64 (w : World) (b o : Nat) (x : Int) : Prop := w.cell? ⟨b, o, none⟩ = some (.int .i64 x)
def AtI32 (w : World) (b o : Nat) (x : Int) : Prop := w.cell? ⟨b, o, none⟩ = some (.int .i32 x)
/-- A slice value reads as a list; sz: the cells of an element. -/
def SlR {α : Type} (sz : Nat) (R : World → Nat → Nat → α → Prop) (w : World) (v : Value) (xs : List α) : Prop :=
  ∃ A c, v = .slice A xs.length c ∧ xs.length ≤ c ∧ c ≤ 9223372036854775807 ∧ (∀ k x, xs[k]? = some x → ∃ b o, A = some ⟨b, o, none⟩ ∧ R w b (o + k * sz) x) ∧ (A = none → c = 0)
abbrev SlI := @SlR Int 1 AtI64
abbrev SlC := @SlR Int 1 AtI32
theorem SlR.mono {α : Type} {sz : Nat} {R : World → Nat → Nat → α → Prop} {w w' : World} {v : Value} {xs : List α} (h : SlR sz R w v xs)
    (hR : ∀ b o x, R w b o x → R w' b o x) : SlR sz R w' v xs := by
  obtain ⟨A, c, hv, hl, hc, hk, hn⟩ := h
  exact ⟨A, c, hv, hl, hc, fun k x hx => let ⟨b, o, hA, hr⟩ := hk k x hx; ⟨b, o, hA, hR _ _ _ hr⟩, hn⟩
theorem SlI.ext {w w' : World} {v : Value} {xs : List Int} (h : SlI w v xs) (he : Ext w w') : SlI w' v xs := h.mono fun _ _ _ hx => he.cell hx
theorem SlC.ext {w w' : World} {v : Value} {xs : List Int} (h : SlC w v xs) (he : Ext w w') : SlC w' v xs := h.mono fun _ _ _ hx => he.cell hx
theorem SlR.nil_ {α : Type} {sz : Nat} {R : World → Nat → Nat → α → Prop} {w : World} : SlR sz R w (.slice none 0 0) ([] : List α) :=
  ⟨none, 0, rfl, Nat.le_refl _, by omega, by intro k x hx; simp at hx, fun _ => rfl⟩
theorem SlR.at_ {α : Type} {sz : Nat} {R : World → Nat → Nat → α → Prop} {w : World} {A : Option Addr} {n c : Nat} {xs : List α} (h : SlR sz R w (.slice A n c) xs) {k : Nat} {x : α} (hx : xs[k]? = some x) :
    ∃ b o, A = some ⟨b, o, none⟩ ∧ R w b (o + k * sz) x := by
  obtain ⟨A', c', hv, _, _, hk, _⟩ := h
  injection hv with h1 _ _
  subst h1
  exact hk k x hx
theorem SlI.at_ {w : World} {A : Option Addr} {n c : Nat} {xs : List Int} (h : SlI w (.slice A n c) xs) {k : Nat} (hk : k < xs.length) : ∃ b o, A = some ⟨b, o, none⟩ ∧ w.cell? ⟨b, o + k, none⟩ = some (.int .i64 xs[k]) := by
  obtain ⟨b, o, hA, hr⟩ := SlR.at_ h (List.getElem?_eq_getElem hk)
  rw [Nat.mul_one] at hr; exact ⟨b, o, hA, hr⟩
theorem SlC.at_ {w : World} {A : Option Addr} {n c : Nat} {xs : List Int} (h : SlC w (.slice A n c) xs) {k : Nat} (hk : k < xs.length) : ∃ b o, A = some ⟨b, o, none⟩ ∧ w.cell? ⟨b, o + k, none⟩ = some (.int .i32 xs[k]) := by
  obtain ⟨b, o, hA, hr⟩ := SlR.at_ h (List.getElem?_eq_getElem hk)
  rw [Nat.mul_one] at hr; exact ⟨b, o, hA, hr⟩
/-- A slice of the call's own, of one-cell elements. -/
abbrev OwnI (w : World) (base e : Nat) (v : Value) (xs : List Int) : Prop := w.ownsRow base e 1 v xs.length (xs.map (Value.int .i64))
abbrev OwnC (w : World) (base e : Nat) (v : Value) (xs : List Int) : Prop := w.ownsRow base e 1 v xs.length (xs.map (Value.int .i32))
theorem own_cell {w : World} {base e size n : Nat} {g cap : Nat} {xs : List Value} (h : w.ownsRow base e size (.slice (some ⟨g, 0, none⟩) n cap) n xs) {j : Nat} {u : Value} (hu : xs[j]? = some u) : w.cell? ⟨g, j, none⟩ = some u := by
  have hj : j < n * size := by
    rw [← h.1]
    rcases Nat.lt_or_ge j xs.length with hlt | hge
    · exact hlt
    · rw [List.getElem?_eq_none hge] at hu; cases hu
  rw [h.cellAt j hj]; exact hu
theorem own_sl1 {k : IntKind} {w : World} {base e : Nat} {v : Value} {xs : List Int} (h : w.ownsRow base e 1 v xs.length (xs.map (Value.int k))) :
    SlR 1 (fun w b o x => w.cell? ⟨b, o, none⟩ = some (.int k x)) w v xs := by
  rcases h.2 with ⟨rfl, h0⟩ | ⟨g, cap, cur, rfl, _, _, hnc, hcm, _⟩
  · have : xs = [] := List.eq_nil_of_length_eq_zero h0
    subst this
    exact SlR.nil_
  · refine ⟨_, cap, rfl, hnc, by unfold maxLen at hcm; omega, fun j x hx => ⟨g, 0, rfl, ?_⟩, by intro h; cases h⟩
    rw [show 0 + j * 1 = j from by omega]
    exact own_cell h (by rw [List.getElem?_map, hx]; rfl)
theorem OwnI.sl {w : World} {base e : Nat} {v : Value} {xs : List Int} (h : OwnI w base e v xs) : SlI w v xs := own_sl1 h
theorem OwnC.sl {w : World} {base e : Nat} {v : Value} {xs : List Int} (h : OwnC w base e v xs) : SlC w v xs := own_sl1 h
/-- The address of a cut slice: behind a name that the walk does not open. -/
def cutA (A : Option Addr) (c k sz : Nat) : Option Addr := if c = k then A else A.map (·.add (k * sz))
theorem run_sl_lo {P : Program} {t e : TypeId} {i : TypeInfo} (ht : P.underlying t = some (.slice e)) (hi : P.info? e = some i) (A : Option Addr) {n c k : Nat} (hk : k ≤ n) (W : World) :
    (Instr.slice t (.slice A n c) (some (.int .i64 (k : Int))) none none).run P W = .ok (.slice (cutA A c k i.size) (n - k) (c - k)) W := by
  have h1 : (k : Int) ≤ n := by omega
  simp [Instr.slice, Instr.sliceBounds, run_underlying ht, sizeOf, typeInfo, hi, run_sliceBound, h1, cutA]
theorem run_sl_both {P : Program} {t e : TypeId} {i : TypeInfo} (ht : P.underlying t = some (.slice e)) (hi : P.info? e = some i) (A : Option Addr) {n c k m : Nat} (hk : k ≤ m) (hm : m ≤ c) (W : World) :
    (Instr.slice t (.slice A n c) (some (.int .i64 (k : Int))) (some (.int .i64 (m : Int))) none).run P W = .ok (.slice (cutA A c k i.size) (m - k) (c - k)) W := by
  have h1 : (k : Int) ≤ m := by omega
  have h2 : (m : Int) ≤ c := by omega
  simp [Instr.slice, Instr.sliceBounds, run_underlying ht, sizeOf, typeInfo, hi, run_sliceBound, h1, h2, cutA]
theorem SlR.cut {α : Type} {sz : Nat} {R : World → Nat → Nat → α → Prop} {w : World} {A : Option Addr} {n c : Nat} {xs : List α} (h : SlR sz R w (.slice A n c) xs) {k : Nat} (hk : k ≤ xs.length) :
    SlR sz R w (.slice (cutA A c k sz) (n - k) (c - k)) (xs.drop k) := by
  obtain ⟨A', c', hv, hl, hc, hx, hn⟩ := h
  injection hv with h1 h2 h3
  subst h1 h2 h3
  refine ⟨_, _, by rw [List.length_drop], by rw [List.length_drop]; omega, by omega, ?_, ?_⟩
  · intro j x hj
    have hjl : k + j < xs.length := by
      rcases Nat.lt_or_ge (k + j) xs.length with h | h
      · exact h
      · rw [List.getElem?_drop, List.getElem?_eq_none h] at hj; cases hj
    rw [List.getElem?_drop] at hj
    obtain ⟨b, o, rfl, hr⟩ := hx _ x hj
    unfold cutA
    rw [if_neg (by omega)]
    refine ⟨b, o + k * sz, ?_, by rw [Nat.add_assoc, ← Nat.add_mul]; exact hr⟩
    simp only [Option.map_some, Addr.add]
    split
    · rename_i h; rw [h]; rfl
    · rfl
  · intro hA
    unfold cutA at hA
    split at hA
    · have := hn hA; omega
    · cases A with
      | none => have := hn rfl; omega
      | some _ => cases hA
/-- The new box of one element, as the laws on append ask it. -/
theorem news_one (w : World) (u : Value) (t : TypeId) : ∀ j x, [u][j]? = some x → (w.alloc (.cells #[u] t)).cell? ((⟨w.heap.size, 0, none⟩ : Addr).add j) = some x := by
  intro j x hx
  match j, hx with
  | 0, hx => simp at hx; subst hx; simp [Addr.add]
theorem one_int {k : IntKind} {x : Int} : ∀ u ∈ [Value.int k x], u.oneCell' = true := by intro u hu; simp at hu; subst hu; rfl
/-- The call returned v, and only drew. -/
def RetD (v : Value) (w : World) (e : Ending) (w' : World) : Prop := e = .returned v ∧ ∃ n, w' = w.drewN n
theorem RetD.mk {v : Value} {w : World} : RetD v w (.returned v) w := ⟨rfl, 0, rfl⟩
theorem within_any (r a b : Int) (w : World) : Calls Try.prog 32 #[.int .i32 r, .int .i32 a, .int .i32 b] w (RetD (.bool (RX.within r a b)) w) := by
  by_cases h1 : a ≤ r
  · by_cases h2 : r ≤ b
    · have HE := Lib.hid (show RX.within r a b = true by simp [RX.within, h1, h2])
      go_enter Try.func32, Try.ntmps32
      go_wp2_with fail
      go_ret
      exact ⟨ret_congr (by rw [HE.out]; rfl), 0, rfl⟩
    · have HE := Lib.hid (show RX.within r a b = false by simp [RX.within, h2])
      go_enter Try.func32, Try.ntmps32
      go_wp2_with fail
      go_ret
      exact ⟨ret_congr (by rw [HE.out]; rfl), 0, rfl⟩
  · have HE := Lib.hid (show RX.within r a b = false by simp [RX.within, h1])
    go_enter Try.func32, Try.ntmps32
    go_wp2_with fail
    go_ret
    exact ⟨ret_congr (by rw [HE.out]; rfl), 0, rfl⟩
theorem is_any (r : Int) (w : World) : Calls Try.prog 31 #[.int .i32 r] w (RetD (.bool (RX.isSign r)) w) := by
  by_cases h1 : 0 ≤ r <;> by_cases h2 : r ≤ 1114111 <;> by_cases h3 : r < 55296 <;> by_cases h4 : 57343 < r
  all_goals first | (exfalso; omega) | skip
  all_goals
    go_enter Try.func31, Try.ntmps31
    go_wp2_with fail
    go_ret
    exact ⟨ret_congr (by simp [RX.isSign]; omega), 0, rfl⟩
theorem class_any (r : Int) (w : World) : Calls Try.prog 22 #[.int .i32 r] w (RetD (.int .i64 (RX.classOf r)) w) := by
  go_enter Try.func22, Try.ntmps22
  go_wp2_with (first | (go_at_call 31; refine (is_any _ _).mono ?_; rintro e w' ⟨rfl, n, rfl⟩) | (go_at_call 32; refine (within_any _ _ _ _).mono ?_; rintro e w' ⟨rfl, n, rfl⟩))
  all_goals
    go_ret
    refine ⟨ret_congr ?_, _, rfl⟩
    simp_all [RX.classOf]
theorem within_iff {r a b : Int} : RX.within r a b = true ↔ a ≤ r ∧ r ≤ b := by simp [RX.within]
theorem lower_any (r : Int) (w : World) : Calls Try.prog 59 #[.int .i32 r] w (RetD (.int .i32 (RX.lower r)) w) := by
  by_cases h1 : RX.within r 65 90 = true
  · have hb := within_iff.1 h1
    obtain ⟨b1, b2⟩ := hb
    go_enter Try.func59, Try.ntmps59
    go_wp2_with (go_at_call 32; refine (within_any _ _ _ _).mono ?_; rintro e w' ⟨rfl, n, rfl⟩)
    all_goals
      go_ret
      refine ⟨ret_congr ?_, _, rfl⟩
      simp_all [RX.lower]
  · by_cases h2 : RX.within r 192 222 = true
    · have hb := within_iff.1 h2
      obtain ⟨b1, b2⟩ := hb
      go_enter Try.func59, Try.ntmps59
      go_wp2_with (go_at_call 32; refine (within_any _ _ _ _).mono ?_; rintro e w' ⟨rfl, n, rfl⟩)
      all_goals
        go_ret
        refine ⟨ret_congr ?_, _, rfl⟩
        simp_all [RX.lower]
    · go_enter Try.func59, Try.ntmps59
      go_wp2_with (go_at_call 32; refine (within_any _ _ _ _).mono ?_; rintro e w' ⟨rfl, n, rfl⟩)
      all_goals
        go_ret
        refine ⟨ret_congr ?_, _, rfl⟩
        simp_all [RX.lower]
theorem digit_any (c : Int) (w : World) : Calls Try.prog 67 #[.int .i32 c] w (RetD (.int .i64 (RX.digit c)) w) := by
  by_cases h1 : c < 48 <;> by_cases h2 : 57 < c
  · exfalso; omega
  all_goals
    go_enter Try.func67, Try.ntmps67
    go_wp2_with fail
    go_ret
    refine ⟨ret_congr ?_, 0, rfl⟩
    simp [RX.digit]
    omega
theorem sign_any (c : Int) (w : World) : Calls Try.prog 60 #[.int .i32 c] w (RetD (.tuple #[.int .i32 ((RX.signR c).getD 0), .bool (RX.signR c).isSome]) w) := by
  go_enter Try.func60, Try.ntmps60
  go_wp2_with (go_at_call 22; refine (class_any _ _).mono ?_; rintro e w' ⟨rfl, n, rfl⟩)
  all_goals
    go_ret2
    first | refine ⟨ret_congr ?_, _, rfl⟩ | refine ⟨ret_congr ?_, 0, rfl⟩
    simp_all [RX.signR]
/-- Blocks whose element type is among T are as they were. -/
def KeepT (T : List TypeId) (w w' : World) : Prop := ∀ (g : Nat) (cur : Array Value) (t : TypeId), t ∈ T → w.heap[g]? = some (.cells cur t (0, 0)) → w'.heap[g]? = some (.cells cur t (0, 0))
theorem KeepT.refl (T : List TypeId) (w : World) : KeepT T w w := fun _ _ _ _ h => h
theorem KeepT.trans {T : List TypeId} {a b c : World} (h : KeepT T a b) (k : KeepT T b c) : KeepT T a c := fun g cur t ht hg => k g cur t ht (h g cur t ht hg)
theorem KeepT.sub {T T' : List TypeId} {a b : World} (h : KeepT T a b) (hs : ∀ t ∈ T', t ∈ T) : KeepT T' a b := fun g cur t ht hg => h g cur t (hs t ht) hg
theorem KeepT.of_ext {T : List TypeId} {a b : World} (h : Ext a b) : KeepT T a b := fun _ _ _ _ hg => h.heap hg
theorem heap_lt {w : World} {g : Nat} {o : Obj} (h : w.heap[g]? = some o) : g < w.heap.size := by
  rcases Nat.lt_or_ge g w.heap.size with hlt | hge
  · exact hlt
  · rw [Array.getElem?_eq_none hge] at h; cases h
theorem KeepT.of_grown {T : List TypeId} {a b : World} {row : Option Nat} (h : a.grownBy b row) (hr : ∀ g, row = some g → ∃ cur t, a.heap[g]? = some (.cells cur t (0, 0)) ∧ t ∉ T) : KeepT T a b := by
  intro g cur t ht hg
  refine (h.block g (heap_lt hg) ?_).trans hg
  intro e
  obtain ⟨cur', t', h', hn⟩ := hr g e.symm
  rw [hg] at h'
  injection h' with h'
  injection h' with _ h' _
  exact hn (h' ▸ ht)
section
variable {α : Type}
/-- A slice value reads as a list: rows of element type t, sz cells each, in blocks from base on, not frozen. -/
def SlB (t sz : Nat) (C : World → List Value → α → Prop) (base : Nat) (w : World) (v : Value) (xs : List α) : Prop :=
  ∃ A c, v = .slice A xs.length c ∧ xs.length ≤ c ∧ c ≤ 9223372036854775807 ∧ (A = none → c = 0) ∧ ∀ ad, A = some ad → ∃ g o cur, ad = ⟨g, o, none⟩ ∧ base ≤ g ∧ w.heap[g]? = some (.cells cur t (0, 0)) ∧ o + c * sz ≤ cur.size ∧
    ∀ k x, xs[k]? = some x → ∃ cs, C w cs x ∧ ∀ i u, cs[i]? = some u → cur[o + k * sz + i]? = some u
/-- The cells of an element are kept where the types T are. -/
def Keeps (T : List TypeId) (C : World → List Value → α → Prop) : Prop := ∀ w w' cs x, KeepT T w w' → C w cs x → C w' cs x
theorem SlB.nil_ {t sz : Nat} {C : World → List Value → α → Prop} {base : Nat} {w : World} : SlB t sz C base w (.slice none 0 0) [] :=
  ⟨none, 0, rfl, Nat.le_refl _, by omega, fun _ => rfl, by intro ad h; cases h⟩
theorem SlB.keep {t sz : Nat} {C : World → List Value → α → Prop} {base : Nat} {w w' : World} {v : Value} {xs : List α} {T : List TypeId} (h : SlB t sz C base w v xs) (hC : Keeps T C) (hk : KeepT T w w') (ht : KeepT [t] w w') : SlB t sz C base w' v xs := by
  obtain ⟨A, c, hv, hl, hc, hn, ha⟩ := h
  refine ⟨A, c, hv, hl, hc, hn, fun ad had => ?_⟩
  obtain ⟨g, o, cur, h1, h2, h3, h4, h5⟩ := ha ad had
  refine ⟨g, o, cur, h1, h2, ht g cur t (by simp) h3, h4, fun k x hx => ?_⟩
  obtain ⟨cs, h6, h7⟩ := h5 k x hx
  exact ⟨cs, hC _ _ _ _ hk h6, h7⟩
theorem SlB.weaken {t sz : Nat} {C : World → List Value → α → Prop} {base base' : Nat} {w : World} {v : Value} {xs : List α} (h : SlB t sz C base w v xs) (hb : base' ≤ base) : SlB t sz C base' w v xs := by
  obtain ⟨A, c, hv, hl, hc, hn, ha⟩ := h
  refine ⟨A, c, hv, hl, hc, hn, fun ad had => ?_⟩
  obtain ⟨g, o, cur, h1, h2, h3⟩ := ha ad had
  exact ⟨g, o, cur, h1, Nat.le_trans hb h2, h3⟩
theorem SlB.imp {t sz : Nat} {C C' : World → List Value → α → Prop} {base : Nat} {w : World} {v : Value} {xs : List α} (h : SlB t sz C base w v xs) (hC : ∀ cs x, C w cs x → C' w cs x) : SlB t sz C' base w v xs := by
  obtain ⟨A, c, hv, hl, hc, hn, ha⟩ := h
  refine ⟨A, c, hv, hl, hc, hn, fun ad had => ?_⟩
  obtain ⟨g, o, cur, h1, h2, h3, h4, h5⟩ := ha ad had
  refine ⟨g, o, cur, h1, h2, h3, h4, fun k x hx => ?_⟩
  obtain ⟨cs, h6, h7⟩ := h5 k x hx
  exact ⟨cs, hC _ _ h6, h7⟩
theorem SlB.form {t sz : Nat} {C : World → List Value → α → Prop} {base : Nat} {w : World} {v : Value} {xs : List α} (h : SlB t sz C base w v xs) : ∃ A c, v = .slice A xs.length c ∧ xs.length ≤ c ∧ c ≤ 9223372036854775807 := by
  obtain ⟨A, c, hv, hl, hc, _⟩ := h
  exact ⟨A, c, hv, hl, hc⟩
theorem SlB.at_ {t sz : Nat} {C : World → List Value → α → Prop} {base : Nat} {w : World} {A : Option Addr} {n c : Nat} {xs : List α} (h : SlB t sz C base w (.slice A n c) xs) {k : Nat} (hk : k < xs.length) :
    ∃ g o cs, A = some ⟨g, o, none⟩ ∧ C w cs xs[k] ∧ ∀ i u, cs[i]? = some u → w.cell? ⟨g, o + k * sz + i, none⟩ = some u := by
  obtain ⟨A', c', hv, hl, hc, hn, ha⟩ := h
  injection hv with h1 _ _
  subst h1
  cases A with
  | none => have := hn rfl; omega
  | some ad =>
    obtain ⟨g, o, cur, rfl, _, h3, _, h5⟩ := ha ad rfl
    obtain ⟨cs, h6, h7⟩ := h5 k _ (List.getElem?_eq_getElem hk)
    exact ⟨g, o, cs, rfl, h6, fun i u hu => (cell_of_row w g _ cur t (0, 0) h3).trans (h7 i u hu)⟩
/-- A slice of the call's own, by its elements. -/
def OwnB (t sz : Nat) (C : World → List Value → α → Prop) (base : Nat) (w : World) (v : Value) (xs : List α) : Prop :=
  ∃ flat, w.ownsRow base t sz v xs.length flat ∧ ∀ k x, xs[k]? = some x → ∃ cs, C w cs x ∧ cs.length = sz ∧ ∀ i u, cs[i]? = some u → flat[k * sz + i]? = some u
theorem OwnB.nil_ {t sz : Nat} {C : World → List Value → α → Prop} {base : Nat} {w : World} : OwnB t sz C base w (.slice none 0 0) [] :=
  ⟨[], World.ownsRow_nil _ _ _ _, by intro k x hx; simp at hx⟩
theorem OwnB.form {t sz : Nat} {C : World → List Value → α → Prop} {base : Nat} {w : World} {v : Value} {xs : List α} (h : OwnB t sz C base w v xs) : ∃ A c, v = .slice A xs.length c ∧ xs.length ≤ c ∧ c ≤ 9223372036854775807 := by
  obtain ⟨flat, hown, _⟩ := h
  rcases hown.2 with ⟨rfl, h0⟩ | ⟨g, cap, cur, rfl, _, _, hnc, hcm, _⟩
  · exact ⟨none, 0, by rw [h0], by omega, by omega⟩
  · exact ⟨_, cap, rfl, hnc, by unfold maxLen at hcm; omega⟩
theorem OwnB.lt {t sz : Nat} {C : World → List Value → α → Prop} {base : Nat} {w : World} {v : Value} {xs : List α} (h : OwnB t sz C base w v xs) : ∀ k, v.ownBlock = some k → base ≤ k ∧ k < w.heap.size := by
  obtain ⟨flat, hown, _⟩ := h; exact hown.lt
theorem own_type {t sz n base : Nat} {w : World} {v : Value} {flat : List Value} (hown : w.ownsRow base t sz v n flat) : ∀ g, v.ownBlock = some g → ∃ cur, w.heap[g]? = some (.cells cur t (0, 0)) := by
  intro g hg
  rcases hown.2 with ⟨rfl, _⟩ | ⟨g', cap, cur, rfl, _, hh, _⟩
  · simp [Value.ownBlock] at hg
  · simp [Value.ownBlock] at hg; subst hg; exact ⟨cur, hh⟩
theorem OwnB.type {t sz : Nat} {C : World → List Value → α → Prop} {base : Nat} {w : World} {v : Value} {xs : List α} (h : OwnB t sz C base w v xs) : ∀ g, v.ownBlock = some g → ∃ cur, w.heap[g]? = some (.cells cur t (0, 0)) := by
  obtain ⟨flat, hown, _⟩ := h; exact own_type hown
theorem OwnB.keepT {t sz : Nat} {C : World → List Value → α → Prop} {base : Nat} {w w' : World} {v : Value} {xs : List α} {T : List TypeId} (h : OwnB t sz C base w v xs) (hC : Keeps T C) (hk : KeepT T w w') (ht : KeepT [t] w w') : OwnB t sz C base w' v xs := by
  obtain ⟨flat, hown, h2⟩ := h
  refine ⟨flat, ⟨hown.1, ?_⟩, fun k x hx => ?_⟩
  · rcases hown.2 with hn | ⟨g, cap, cur, hv, hb, hg, rest⟩
    · exact .inl hn
    · exact .inr ⟨g, cap, cur, hv, hb, ht g cur t (by simp) hg, rest⟩
  · obtain ⟨cs, h6, h7⟩ := h2 k x hx
    exact ⟨cs, hC _ _ _ _ hk h6, h7⟩
theorem OwnB.sl {t sz : Nat} {C : World → List Value → α → Prop} {base : Nat} {w : World} {v : Value} {xs : List α} (h : OwnB t sz C base w v xs) : SlB t sz C base w v xs := by
  obtain ⟨flat, hown, h2⟩ := h
  rcases hown.2 with ⟨rfl, h0⟩ | ⟨g, cap, cur, rfl, hb, hh, hnc, hcm, hcs, htake⟩
  · have : xs = [] := List.eq_nil_of_length_eq_zero h0
    subst this
    exact SlB.nil_
  · refine ⟨_, cap, rfl, hnc, by unfold maxLen at hcm; omega, (by intro h; cases h), fun ad had => ?_⟩
    obtain rfl := Option.some.inj had
    refine ⟨g, 0, cur, rfl, hb, hh, by rw [hcs]; omega, fun k x hx => ?_⟩
    obtain ⟨cs, h6, h7, h8⟩ := h2 k x hx
    refine ⟨cs, h6, fun i u hu => ?_⟩
    have := h8 i u hu
    rw [← htake, List.getElem?_take] at this
    split at this
    · rw [Nat.zero_add]; simpa using this
    · cases this
/-- A literal slice: the block that the call has just made. -/
theorem OwnB.lit {t sz : Nat} {C : World → List Value → α → Prop} {base : Nat} {w : World} (cells : Array Value) (xs : List α) (nb n : Nat) (hnb : nb = w.heap.size) (hn : n = xs.length) (hb : base ≤ w.heap.size) (hm : xs.length ≤ 1000000) (hs : cells.size = xs.length * sz)
    (h : ∀ k x, xs[k]? = some x → ∃ cs, C (w.alloc (.cells cells t)) cs x ∧ cs.length = sz ∧ ∀ i u, cs[i]? = some u → cells[k * sz + i]? = some u) :
    OwnB t sz C base (w.alloc (.cells cells t)) (.slice (some ⟨nb, 0, none⟩) n n) xs := by
  subst hnb hn
  refine ⟨cells.toList, ⟨by simpa using hs, .inr ⟨w.heap.size, xs.length, cells, rfl, hb, heap_alloc_new w _, Nat.le_refl _, by unfold maxLen; omega, hs, ?_⟩⟩, fun k x hx => ?_⟩
  · rw [← hs, List.take_of_length_le (by simp)]
  · obtain ⟨cs, h1, h2, h3⟩ := h k x hx
    exact ⟨cs, h1, h2, fun i u hu => by simpa using h3 i u hu⟩
theorem OwnB.snoc {t sz : Nat} {C : World → List Value → α → Prop} {base : Nat} {w w' : World} {v' : Value} {xs : List α} {x : α} {flat cs : List Value} {T : List TypeId}
    (h2 : ∀ k x, xs[k]? = some x → ∃ cs, C w cs x ∧ cs.length = sz ∧ ∀ i u, cs[i]? = some u → flat[k * sz + i]? = some u)
    (hl : flat.length = xs.length * sz) (hC : Keeps T C) (hk : KeepT T w w') (hx : C w cs x) (hcs : cs.length = sz) (hown : w'.ownsRow base t sz v' (xs.length + 1) (flat ++ cs)) : OwnB t sz C base w' v' (xs ++ [x]) := by
  refine ⟨flat ++ cs, by rw [List.length_append]; exact hown, fun k y hy => ?_⟩
  rcases Nat.lt_or_ge k xs.length with hlt | hge
  · rw [List.getElem?_append_left hlt] at hy
    obtain ⟨ds, h3, h4, h5⟩ := h2 k y hy
    refine ⟨ds, hC _ _ _ _ hk h3, h4, fun i u hu => ?_⟩
    have h6 := h5 i u hu
    rw [List.getElem?_append_left]
    · exact h6
    · rcases Nat.lt_or_ge (k * sz + i) flat.length with h | h
      · exact h
      · rw [List.getElem?_eq_none h] at h6; cases h6
  · have hk0 : k = xs.length := by
      rcases Nat.lt_or_ge k (xs.length + 1) with h | h
      · omega
      · rw [List.getElem?_eq_none (by simp; omega)] at hy; cases hy
    subst hk0
    rw [List.getElem?_append_right (Nat.le_refl _)] at hy
    simp at hy
    subst hy
    refine ⟨cs, hC _ _ _ _ hk hx, hcs, fun i u hu => ?_⟩
    rw [List.getElem?_append_right (by omega), show xs.length * sz + i - flat.length = i from by omega]
    exact hu
end
theorem news_all (w : World) (cs : List Value) (t : TypeId) : ∀ j x, cs[j]? = some x → (w.alloc (.cells cs.toArray t)).cell? ((⟨w.heap.size, 0, none⟩ : Addr).add j) = some x := by
  intro j x hx
  have : (⟨w.heap.size, 0, none⟩ : Addr).add j = ⟨w.heap.size, j, none⟩ := by unfold Addr.add; split <;> simp_all
  rw [this, World.cell?_alloc_new]
  simpa using hx
section
variable {α : Type} {P : Program} {w : World} {ops : Array Oper} {rest : List Oper} {o : Oper} {a : Act} {Q : Exit → Act → World → Prop}
/-- append(v, x) of one element of cs cells; T: the types on which the elements hang. -/
theorem app_one {t te sz bytes : Nat} {z : Value} (ht : P.underlying t = some (.slice te)) (hinf : (P.info? te).map (fun i => (i.zero, i.size, i.bytes)) = some (some z, sz, bytes)) (hzs : z.cells.size = sz) (hsz : 0 < sz) (hby : bytes ≤ 1000)
    {T : List TypeId} {C : World → List Value → α → Prop} (hC : Keeps T C) (hT : te ∉ T)
    (hgd : o.guard = none) (s x : Operand) (ho : o.op = .call { callee := .builtin .append, args := #[s, x], argTypes := #[t, t] })
    (B : Nat) (v : Value) (xs : List α) (y : α) (cs : List Value) (tb : TypeId) (hown : OwnB te sz C B w v xs) (hy : C w cs y) (hcs : cs.length = sz) (h1 : ∀ u ∈ cs, u.oneCell' = true)
    (hs : a.eval s = v) (nb : Nat) (hx : a.eval x = .slice (some ⟨nb, 0, none⟩) 1 1) (hnb : nb = w.heap.size) (hn : xs.length ≤ 1000000) (hB : B ≤ w.heap.size)
    (h : ∀ v' w', OwnB te sz C B w' v' (xs ++ [y]) → (w.alloc (.cells cs.toArray tb)).grownBy w' v.ownBlock → wpList P ops Q rest (a.put o.dst v') w') :
    wpList P ops Q (o :: rest) a (w.alloc (.cells cs.toArray tb)) := by
  subst hnb
  obtain ⟨i0, hi, hz0, hz1, hz2⟩ := info_parts hinf
  obtain ⟨flat, hr, h2⟩ := hown
  refine wpList_append_own _ hgd s x t ho B te i0 z sz bytes ht hi hz0 hz1 hz2 hzs hsz v xs.length flat hs (World.ownsRow.alloc hr _) ⟨w.heap.size, 0, none⟩ 1 1 cs hx (by omega) (news_all _ _ _) h1 (by unfold maxLen; omega) (Nat.le_trans (Nat.mul_le_mul (show xs.length + 1 ≤ 1000001 by omega) hby) (by omega)) (by simp; omega) ?_
  intro v' w' h3 h4 _
  refine h v' w' (OwnB.snoc h2 hr.1 hC ?_ hy hcs h3) h4
  refine (KeepT.of_ext ((Ext.refl w).alloc _)).trans (KeepT.of_grown h4 (fun g hg => ?_))
  obtain ⟨cur, hh⟩ := own_type hr g hg
  exact ⟨cur, te, ((Ext.refl w).alloc _).heap hh, hT⟩
end
/-- A literal row of elements. -/
def Cc (_ : World) (cs : List Value) (x : Int) : Prop := cs = [.int .i32 x]
theorem keeps_c (T : List TypeId) : Keeps T Cc := fun _ _ _ _ _ h => h
theorem lit_c {B : Nat} (w : World) (xs : List Int) (hb : B ≤ w.heap.size) (hn : xs.length ≤ 1000) :
    OwnB 21 1 Cc B (w.alloc (.cells (xs.map (Value.int .i32)).toArray 21)) (.slice (some ⟨w.heap.size, 0, none⟩) xs.length xs.length) xs :=
  OwnB.lit _ xs _ _ rfl rfl hb (by omega) (by simp) fun k x hx => ⟨[.int .i32 x], rfl, rfl, fun i u hu => by
    match i, hu with
    | 0, hu => simp at hu; subst hu; simp [hx]⟩
/-- A nil slice where there is none, else one of the call's own. -/
def OptC (B : Nat) (w : World) (v : Value) : Option (List Int) → Prop
  | none => v = .slice none 0 0
  | some l => OwnB 21 1 Cc B w v l ∧ ∃ g, v = .slice (some ⟨g, 0, none⟩) l.length l.length
theorem sort_any (c : Int) (w : World) : Calls Try.prog 58 #[.int .i32 c] w (RetP (fun w' v => OptC w.heap.size w' v (RX.sortR c)) w) := by
  by_cases h1 : c = 100
  · subst h1
    go_enter Try.func58, Try.ntmps58
    go_wp2_with fail
    go_ret
    exact ⟨_, rfl, ⟨lit_c w [48, 57] (Nat.le_refl _) (by decide), _, rfl⟩, (Ext.refl w).alloc _⟩
  by_cases h2 : c = 119
  · subst h2
    go_enter Try.func58, Try.ntmps58
    go_wp2_with fail
    go_ret
    exact ⟨_, rfl, ⟨lit_c w [97, 122, 65, 90, 48, 57, 95, 95] (Nat.le_refl _) (by decide), _, rfl⟩, (Ext.refl w).alloc _⟩
  by_cases h3 : c = 115
  · subst h3
    go_enter Try.func58, Try.ntmps58
    go_wp2_with fail
    go_ret
    exact ⟨_, rfl, ⟨lit_c w [32, 32, 9, 9, 10, 10] (Nat.le_refl _) (by decide), _, rfl⟩, (Ext.refl w).alloc _⟩
  have b1 : (c == 100) = false := by simpa using h1
  have b2 : (c == 119) = false := by simpa using h2
  have b3 : (c == 115) = false := by simpa using h3
  have HS := Lib.hid (show RX.sortR c = none by simp [RX.sortR, h1, h2, h3])
  clear h1 h2 h3
  go_enter Try.func58, Try.ntmps58
  go_wp2_with fail
  go_ret
  exact ⟨_, rfl, by rw [HS.out]; rfl, Ext.refl w⟩
abbrev Only (w w' : World) (p : Nat) : Prop := w.grownBy w' (some p)
theorem Only.refl (w : World) (p : Nat) : Only w w p := World.grownBy.refl _ _
theorem Only.of_ext {w w' : World} (h : Ext w w') (p : Nat) : Only w w' p := ⟨Below.os h, Below.tape h, Below.output h, Below.size h, fun i hi _ => Below.block h i hi⟩
theorem Only.trans {a b c : World} {p : Nat} (h : Only a b p) (k : Only b c p) : Only a c p :=
  ⟨k.os.trans h.os, k.tape.trans h.tape, k.output.trans h.output, Nat.le_trans h.size k.size, fun i hi hne => (k.block i (Nat.lt_of_lt_of_le hi h.size) hne).trans (h.block i hi hne)⟩
theorem Only.set {a w : World} {p o : Nat} (h : Only a w p) (u : Value) : Only a (w.setCell ⟨p, o, none⟩ u) p :=
  ⟨h.os, h.tape, h.output, by simpa using h.size, fun i hi hne => (Below.heap_setCell w ⟨p, o, none⟩ u i (by rintro rfl; exact hne rfl)).trans (h.block i hi hne)⟩
theorem Only.drewN {a w : World} {p : Nat} (h : Only a w p) (n : Nat) : Only a (w.drewN n) p := ⟨h.os, h.tape, h.output, h.size, h.block⟩
theorem Only.alloc {a w : World} {p : Nat} (h : Only a w p) (o : Obj) : Only a (w.alloc o) p :=
  ⟨h.os, h.tape, h.output, Nat.le_trans h.size (by simp), fun i hi hne => (Below.heap_alloc w o i (Nat.lt_of_lt_of_le hi h.size)).trans (h.block i hi hne)⟩
theorem Ext.only {a w w' : World} {p : Nat} (h : Ext a w) (k : Only w w' p) (hp : a.heap.size ≤ p) : Ext a w' := h.grown k (by intro q hq; injection hq with hq; omega)
theorem Only.keepT {w w' : World} {p : Nat} (h : Only w w' p) {cur : Array Value} {t : TypeId} (hp : w.heap[p]? = some (.cells cur t (0, 0))) {T : List TypeId} (hT : t ∉ T) : KeepT T w w' :=
  KeepT.of_grown h (by intro g hg; injection hg with hg; subst hg; exact ⟨cur, t, hp, hT⟩)
/-- The reader's block. -/
def RS (rb : Nat) (sv : Value) (w : World) (st : RX.St) : Prop :=
  w.heap[rb]? = some (.cells #[sv, .int .i64 st.at_, .int .i64 st.op, .int .i64 st.caps, .int .i64 st.code, .int .i64 st.bat] 55 (0, 0))
/-- The reader's text, known at an elder world; the reader's block, now. -/
def Env (w0 : World) (rb : Nat) (sv : Value) (s : List Int) (w : World) (st : RX.St) : Prop :=
  SlC w0 sv s ∧ w0.heap.size ≤ rb ∧ s.length ≤ 60 ∧ Ext w0 w ∧ RS rb sv w st
theorem Env.rs {w0 : World} {rb : Nat} {sv : Value} {s : List Int} {w : World} {st : RX.St} (h : Env w0 rb sv s w st) : RS rb sv w st := h.2.2.2.2
theorem Env.len {w0 : World} {rb : Nat} {sv : Value} {s : List Int} {w : World} {st : RX.St} (h : Env w0 rb sv s w st) : s.length ≤ 60 := h.2.2.1
theorem Env.step {w0 : World} {rb : Nat} {sv : Value} {s : List Int} {w w' : World} {st st' : RX.St} (h : Env w0 rb sv s w st) (ho : Only w w' rb) (hr : RS rb sv w' st') : Env w0 rb sv s w' st' :=
  ⟨h.1, h.2.1, h.2.2.1, h.2.2.2.1.only ho h.2.1, hr⟩
theorem Env.drewN {w0 : World} {rb : Nat} {sv : Value} {s : List Int} {w : World} {st : RX.St} (h : Env w0 rb sv s w st) (n : Nat) : Env w0 rb sv s (w.drewN n) st := ⟨h.1, h.2.1, h.2.2.1, h.2.2.2.1.drewN n, h.2.2.2.2⟩
theorem RS.c0 {rb : Nat} {sv : Value} {w : World} {st : RX.St} (h : RS rb sv w st) : w.cell? ⟨rb, 0, none⟩ = some sv := cell_of_row w rb 0 _ _ _ h
theorem RS.c1 {rb : Nat} {sv : Value} {w : World} {st : RX.St} (h : RS rb sv w st) : w.cell? ⟨rb, 1, none⟩ = some (.int .i64 st.at_) := cell_of_row w rb 1 _ _ _ h
theorem RS.c2 {rb : Nat} {sv : Value} {w : World} {st : RX.St} (h : RS rb sv w st) : w.cell? ⟨rb, 2, none⟩ = some (.int .i64 st.op) := cell_of_row w rb 2 _ _ _ h
theorem RS.c3 {rb : Nat} {sv : Value} {w : World} {st : RX.St} (h : RS rb sv w st) : w.cell? ⟨rb, 3, none⟩ = some (.int .i64 st.caps) := cell_of_row w rb 3 _ _ _ h
theorem RS.c4 {rb : Nat} {sv : Value} {w : World} {st : RX.St} (h : RS rb sv w st) : w.cell? ⟨rb, 4, none⟩ = some (.int .i64 st.code) := cell_of_row w rb 4 _ _ _ h
theorem RS.c5 {rb : Nat} {sv : Value} {w : World} {st : RX.St} (h : RS rb sv w st) : w.cell? ⟨rb, 5, none⟩ = some (.int .i64 st.bat) := cell_of_row w rb 5 _ _ _ h
theorem RS.fr {rb : Nat} {sv : Value} {w : World} {st : RX.St} (h : RS rb sv w st) (o : Nat) : w.frozen? ⟨rb, o, none⟩ = false := frozen_of_row w rb o _ _ h
theorem heap_set {w : World} {p o : Nat} {cs : Array Value} {u : Value} {t : TypeId} (h : w.heap[p]? = some (.cells cs t (0, 0))) : (w.setCell ⟨p, o, none⟩ u).heap[p]? = some (.cells (cs.setIfInBounds o u) t (0, 0)) := by
  simp [World.setCell, Array.getElem?_modify, h]
theorem RS.set1 {rb : Nat} {sv : Value} {w : World} {st : RX.St} (h : RS rb sv w st) (n : Nat) : RS rb sv (w.setCell ⟨rb, 1, none⟩ (.int .i64 n)) { st with at_ := n } := heap_set h
theorem RS.set2 {rb : Nat} {sv : Value} {w : World} {st : RX.St} (h : RS rb sv w st) (n : Nat) : RS rb sv (w.setCell ⟨rb, 2, none⟩ (.int .i64 n)) { st with op := n } := heap_set h
theorem RS.set3 {rb : Nat} {sv : Value} {w : World} {st : RX.St} (h : RS rb sv w st) (n : Nat) : RS rb sv (w.setCell ⟨rb, 3, none⟩ (.int .i64 n)) { st with caps := n } := heap_set h
theorem RS.set45 {rb : Nat} {sv : Value} {w : World} {st : RX.St} (h : RS rb sv w st) (c b : Int) : RS rb sv ((w.setCell ⟨rb, 4, none⟩ (.int .i64 c)).setCell ⟨rb, 5, none⟩ (.int .i64 b)) { st with code := c, bat := b } :=
  heap_set (heap_set h)
theorem RS.drewN {rb : Nat} {sv : Value} {w : World} {st : RX.St} (h : RS rb sv w st) (n : Nat) : RS rb sv (w.drewN n) st := h
theorem RS.ext {rb : Nat} {sv : Value} {w w' : World} {st : RX.St} (h : RS rb sv w st) (he : Ext w w') : RS rb sv w' st := he.heap h
theorem dd {w : World} {a b : Nat} : ∃ n, (w.drewN a).drewN b = w.drewN n := ⟨a + b, by rw [World.drewN_drewN]⟩
/-- Behind a call on the reader: its result, its state. -/
def PostR (R : World → Value → Prop) (rb : Nat) (sv : Value) (w : World) (st' : RX.St) (hi : Nat) (e : Ending) (w' : World) : Prop :=
  ∃ v, e = .returned v ∧ R w' v ∧ RS rb sv w' st' ∧ Only w w' rb ∧ st'.at_ ≤ hi
/-- The same, the result a scalar. -/
def PostV (v : Value) (rb : Nat) (sv : Value) (w : World) (st' : RX.St) (hi : Nat) (e : Ending) (w' : World) : Prop :=
  e = .returned v ∧ RS rb sv w' st' ∧ Only w w' rb ∧ st'.at_ ≤ hi
section
variable {w0 : World} {rb : Nat} {sv : Value} {s : List Int}
theorem next_any (n : Nat) (w : World) (st : RX.St) (he : Env w0 rb sv s w st) (hn : n ≤ 2) (ha : st.at_ ≤ 10000) :
    Calls Try.prog 40 #[.pointer (some ⟨rb, 0, none⟩), .int .i64 n] w (RetD (.int .i32 (RX.nxt s st n)) w) := by
  obtain ⟨hs, hrb, hl, hE, hr⟩ := he
  have c0 := hr.c0
  have c1 := hr.c1
  have HS := Lib.hid (hs.ext hE)
  obtain ⟨A, ca, rfl, hlx, hcx, _⟩ := hs
  clear hr hE
  by_cases h : s.length ≤ st.at_ + n
  · have HN := Lib.hid (show RX.nxt s st n = -1 by unfold RX.nxt; rw [List.getElem?_eq_none h]; rfl)
    have hd : decide ((s.length : Int) - st.at_ ≤ n) = true := by simp; omega
    go_enter Try.func40, Try.ntmps40
    go_wp2_with fail
    go_quiet (fail)
    go_wp2_with fail
    go_ret
    exact ⟨ret_congr (by rw [HN.out]; rfl), _, rfl⟩
  · obtain ⟨b, o, rfl, hc⟩ := HS.out.at_ (k := st.at_ + n) (by omega)
    have HN := Lib.hid (show RX.nxt s st n = s[st.at_ + n] by unfold RX.nxt; rw [List.getElem?_eq_getElem (by omega)]; rfl)
    generalize s[st.at_ + n] = x at HN hc
    have hd : decide ((s.length : Int) - st.at_ ≤ n) = false := by simp; omega
    have h1 : st.at_ + n < s.length := by omega
    go_enter Try.func40, Try.ntmps40
    go_wp2_with fail
    go_quiet (fail)
    go_wp2_with fail
    go_quiet (fail)
    go_wp2_with fail
    go_ret
    exact ⟨ret_congr (by rw [HN.out]; rfl), dd⟩
theorem peek_any (w : World) (st : RX.St) (he : Env w0 rb sv s w st) (ha : st.at_ ≤ 10000) :
    Calls Try.prog 34 #[.pointer (some ⟨rb, 0, none⟩)] w (RetD (.int .i32 (RX.nxt s st 0)) w) := by
  have H := Lib.hid (next_any 0 w st he (by omega) ha)
  clear he
  go_enter Try.func34, Try.ntmps34
  go_wp2_with fail
  refine H.out.mono ?_
  rintro e w' ⟨rfl, n, rfl⟩
  go_wp2_with fail
  go_ret
  exact ⟨rfl, _, rfl⟩
theorem ok_any (w : World) (st : RX.St) (he : Env w0 rb sv s w st) :
    Calls Try.prog 24 #[.pointer (some ⟨rb, 0, none⟩)] w (RetD (.bool st.ok) w) := by
  have c4 := he.rs.c4
  clear he
  go_enter Try.func24, Try.ntmps24
  go_wp2_with fail
  go_ret
  exact ⟨rfl, 0, rfl⟩
theorem fail_any (w : World) (st : RX.St) (c b : Int) (he : Env w0 rb sv s w st) :
    Calls Try.prog 25 #[.pointer (some ⟨rb, 0, none⟩), .int .i64 c, .int .i64 b] w (PostV (.tuple #[]) rb sv w (st.fail c b) st.at_) := by
  have hr := he.rs
  have c4 := hr.c4
  have c5 := hr.c5
  have f4 := hr.fr 4
  have f5 := hr.fr 5
  have HR := Lib.hid hr
  clear he hr
  by_cases h : st.code = 0
  · have HF := Lib.hid (show st.fail c b = { st with code := c, bat := b } by simp [RX.St.fail, h])
    have hb : (st.code == 0) = true := by simp [h]
    clear h
    go_enter Try.func25, Try.ntmps25
    go_wp2_with fail
    go_end0
    refine ⟨rfl, ?_, ?_, ?_⟩
    · rw [HF.out]; exact HR.out.set45 c b
    · exact ((Only.refl w rb).set _).set _
    · rw [HF.out]; exact Nat.le_refl _
  · have HF := Lib.hid (show st.fail c b = st by simp [RX.St.fail, h])
    have hb : (st.code == 0) = false := by simpa using h
    clear h
    go_enter Try.func25, Try.ntmps25
    go_wp2_with fail
    go_end0
    refine ⟨rfl, ?_, Only.refl w rb, by rw [HF.out]; exact Nat.le_refl _⟩
    rw [HF.out]; exact HR.out
end
theorem info_re : (Try.prog.info? 47).map (fun i => (i.zero, i.size, i.bytes)) = some (some (.agg #[.int .i64 0, .int .i64 0, .int .i64 0, .int .i64 0, .bool false, .bool false, .slice none 0 0]), 7, 64) := by kernel_rfl
theorem info_rows : (Try.prog.info? 36).map (fun i => (i.zero, i.size, i.bytes)) = some (some (.slice none 0 0), 1, 24) := by kernel_rfl
theorem info_c : (Try.prog.info? 21).map (fun i => (i.zero, i.size, i.bytes)) = some (some (.int .i32 0), 1, 4) := by kernel_rfl
/-- The cells of a node; its set lies in blocks from B on. -/
def CR (B : Nat) (w : World) (cs : List Value) (x : RX.ReN) : Prop :=
  ∃ sv, cs = [.int .i64 x.kind, .int .i64 x.deep, .int .i64 x.lo, .int .i64 x.hi, .bool x.lazy, .bool x.neg, sv] ∧ SlB 21 1 Cc B w sv x.set
theorem keeps_re (B : Nat) : Keeps [21] (CR B) := fun _ _ _ _ hk ⟨sv, h1, h2⟩ => ⟨sv, h1, h2.keep (keeps_c []) (hk.sub (by simp)) hk⟩
abbrev OwnRe (B base : Nat) (w : World) (v : Value) (l : List RX.ReN) : Prop := OwnB 47 7 (CR B) base w v l
abbrev SlRe (B base : Nat) (w : World) (v : Value) (l : List RX.ReN) : Prop := SlB 47 7 (CR B) base w v l
/-- The cell of a row of nodes. -/
def CL (B : Nat) (w : World) (cs : List Value) (l : List RX.ReN) : Prop := ∃ v, cs = [v] ∧ SlRe B B w v l
theorem keeps_l (B : Nat) : Keeps [47, 21] (CL B) := fun _ _ _ _ hk ⟨v, h1, h2⟩ => ⟨v, h1, h2.keep (keeps_re B) (hk.sub (by simp)) (hk.sub (by simp))⟩
theorem CR.one {B : Nat} {w : World} {cs : List Value} {x : RX.ReN} (h : CR B w cs x) : ∀ u ∈ cs, u.oneCell' = true := by
  obtain ⟨sv, rfl, hs⟩ := h
  obtain ⟨A, c, rfl, _⟩ := hs
  intro u hu
  simp at hu
  rcases hu with rfl | rfl | rfl | rfl | rfl | rfl | rfl <;> rfl
theorem CR.down {B : Nat} {w : World} {k d lo hi : Int} {lz ng : Bool} {sv : Value} {x : RX.ReN} (h : CR B w [.int .i64 k, .int .i64 d, .int .i64 lo, .int .i64 hi, .bool lz, .bool ng, sv] x) : CR B w [.int .i64 k, .int .i64 (d + 1), .int .i64 lo, .int .i64 hi, .bool lz, .bool ng, sv] x.down := by
  obtain ⟨sv', h1, h2⟩ := h
  simp only [List.cons.injEq, Value.int.injEq, Value.bool.injEq, true_and, and_true] at h1
  obtain ⟨rfl, rfl, rfl, rfl, rfl, rfl, rfl⟩ := h1
  exact ⟨sv, rfl, h2⟩
theorem CR.cells {B : Nat} {w : World} {cs : List Value} {x : RX.ReN} (h : CR B w cs x) : ∃ A c, cs = [.int .i64 x.kind, .int .i64 x.deep, .int .i64 x.lo, .int .i64 x.hi, .bool x.lazy, .bool x.neg, .slice A x.set.length c] := by
  obtain ⟨sv, rfl, hs⟩ := h
  obtain ⟨A, c, rfl, _⟩ := hs
  exact ⟨A, c, rfl⟩
theorem CR.len {B : Nat} {w : World} {cs : List Value} {x : RX.ReN} (h : CR B w cs x) : cs.length = 7 := by
  obtain ⟨sv, rfl, _⟩ := h; rfl
theorem take_map_snoc (pre : List RX.ReN) (l : List RX.ReN) (m : Nat) (h : m < l.length) : pre ++ (l.take (m + 1)).map RX.ReN.down = (pre ++ (l.take m).map RX.ReN.down) ++ [l[m].down] := by
  rw [List.take_succ_eq_append_getElem h, List.map_append, ← List.append_assoc]; rfl
theorem take_flat_snoc (top : RX.ReN) (ps : List (List RX.ReN)) (m : Nat) (h : m < ps.length) : (top :: ((ps.take m).flatten.map RX.ReN.down)) ++ ps[m].map RX.ReN.down = top :: ((ps.take (m + 1)).flatten.map RX.ReN.down) := by
  rw [List.take_succ_eq_append_getElem h, List.flatten_append, List.map_append, List.cons_append, List.flatten_singleton]
/-- The bounds on what is put below a node. -/
def Small (top : RX.ReN) (parts : List (List RX.ReN)) : Prop := (RX.under top parts).length ≤ 100000 ∧ ∀ l ∈ parts, ∀ x ∈ l, 0 ≤ x.deep ∧ x.deep ≤ 1000
theorem Small.part {top : RX.ReN} {parts : List (List RX.ReN)} (h : Small top parts) {m : Nat} (hm : m < parts.length) : (top :: ((parts.take m).flatten.map RX.ReN.down)).length + parts[m].length ≤ 100000 := by
  have h1 := h.1
  have e : parts = parts.take m ++ (parts[m] :: parts.drop (m + 1)) := by rw [← List.drop_eq_getElem_cons hm, List.take_append_drop]
  have h2 : parts.flatten = (parts.take m).flatten ++ (parts[m] ++ (parts.drop (m + 1)).flatten) :=
    (congrArg List.flatten e).trans (by rw [List.flatten_append, List.flatten_cons])
  unfold RX.under at h1
  rw [h2] at h1
  simp at h1 ⊢
  omega
theorem under_any (B : Nat) (w : World) (top : RX.ReN) (parts : List (List RX.ReN)) (ctop : List Value) (vp : Value) (ht : CR B w ctop top) (hp : SlB 36 1 (CL B) B w vp parts) (hs : Small top parts) :
    Calls Try.prog 35 #[.agg ctop.toArray, vp] w (RetP (fun w' v => OwnRe B w.heap.size w' v (RX.under top parts)) w) := by
  have HT := Lib.hid ht
  obtain ⟨At, ct, rfl⟩ := ht.cells
  have HP := Lib.hid hp
  have HS := Lib.hid hs
  obtain ⟨Ap, cp, rfl, hlp, hcp⟩ := hp.form
  clear ht hs hp
  go_enter Try.func35, Try.ntmps35
  go_wp2_with fail
  go_loopg [5, 14] parts.length (fun k v i wr => ∃ m : Nat, m + k = parts.length ∧ i = .int .i64 m ∧ OwnRe B w.heap.size wr v (top :: ((parts.take m).flatten.map RX.ReN.down)) ∧ Ext w wr)
  case atStart =>
    refine ⟨0, by omega, rfl, ?_, ((Ext.refl w).alloc _).alloc _⟩
    refine OwnB.lit (w := w.alloc _) (base := w.heap.size) (sz := 7) _ [top] _ _ (by simp) rfl (by simp) (by simp) ?_ ?_
    · rfl
    intro k x hx
    match k, hx with
    | 0, hx =>
      simp at hx; subst hx
      exact ⟨_, keeps_re B _ _ _ _ (KeepT.of_ext (((Ext.refl w).alloc _).alloc _)) HT.out, rfl, fun i u hu => by simpa using hu⟩
  case round =>
    obtain ⟨m, hm, rfl, hown, hE⟩ := hrel
    have HO := Lib.hid hown
    have HM := Lib.hid hm
    clear hm hown
    have hml : m ≤ parts.length := by have := HM.out; omega
    by_cases hlt : m < parts.length
    · obtain ⟨gp, op, cs, rfl, ⟨vl, rfl, hsl⟩, hcell⟩ := HP.out.at_ hlt
      have hc := hE.cell (hcell 0 vl rfl)
      rw [Nat.mul_one, Nat.add_zero] at hc
      have hpart := HS.out.part hlt
      have hdeep := HS.out.2 parts[m] (List.getElem_mem hlt)
      have HF := Lib.hid (take_flat_snoc top parts m hlt)
      have HD := Lib.hid hdeep
      generalize parts[m] = l at hsl HF HD hpart
      generalize top :: ((parts.take m).flatten.map RX.ReN.down) = pre at HO HF hpart
      obtain ⟨Al, cl, rfl, hll, hcl⟩ := hsl.form
      have HL := Lib.hid hsl
      have HE := Lib.hid hE
      have hsz := hE.size
      clear hsl hcell hdeep hE
      obtain ⟨wo, rfl⟩ : ∃ wo : World, wo = wr := ⟨_, rfl⟩
      go_wp2_with fail
      clear hc
      go_loopg [5, 20] l.length (fun k v i wr => ∃ q : Nat, q + k = l.length ∧ i = .int .i64 q ∧ OwnRe B w.heap.size wr v (pre ++ (l.take q).map RX.ReN.down) ∧ Ext w wr)
      case atStart => exact ⟨0, by omega, rfl, by rw [List.take_zero]; simpa using HO.out, HE.out⟩
      case round =>
        obtain ⟨q, hq, rfl, hown, hE⟩ := hrel
        have HQ := Lib.hid hq
        clear hq
        have hql : q ≤ l.length := by have := HQ.out; omega
        by_cases hlt2 : q < l.length
        · obtain ⟨g, o, cs, rfl, hcr, hcell⟩ := (HL.out.keep (keeps_re B) (KeepT.of_ext hE) (KeepT.of_ext hE)).at_ hlt2
          have HSn := Lib.hid (take_map_snoc pre l q hlt2)
          have hd := HD.out l[q] (List.getElem_mem hlt2)
          generalize l[q] = x at hcr HSn hd
          have hln : (pre ++ (l.take q).map RX.ReN.down).length ≤ 1000000 := by simp; omega
          generalize pre ++ (l.take q).map RX.ReN.down = acc at HSn hown hln
          obtain ⟨acc', hac⟩ : ∃ a, a = pre ++ (l.take (q + 1)).map RX.ReN.down := ⟨_, rfl⟩
          rw [← hac] at HSn
          have HAC := Lib.hid hac
          clear hac
          obtain ⟨Ax, cx, rfl⟩ := hcr.cells
          have c0 := hcell 0 _ rfl
          have c1 := hcell 1 _ rfl
          have c2 := hcell 2 _ rfl
          have c3 := hcell 3 _ rfl
          have c4 := hcell 4 _ rfl
          have c5 := hcell 5 _ rfl
          have c6 := hcell 6 _ rfl
          rw [Nat.add_zero] at c0
          obtain ⟨hd0, hd1⟩ := hd
          have hy := hcr.down
          have hown2 := hown.keepT (keeps_re B) (KeepT.of_ext ((Ext.refl wr).alloc (.cells #[.int .i64 x.kind, .int .i64 (x.deep + 1), .int .i64 x.lo, .int .i64 x.hi, .bool x.lazy, .bool x.neg, .slice Ax x.set.length cx] 47))) (KeepT.of_ext ((Ext.refl wr).alloc _))
          have hy2 := keeps_re B _ _ _ _ (KeepT.of_ext ((Ext.refl wr).alloc (.cells #[.int .i64 x.kind, .int .i64 (x.deep + 1), .int .i64 x.lo, .int .i64 x.hi, .bool x.lazy, .bool x.neg, .slice Ax x.set.length cx] 47))) hy
          have hlen := hln
          have hsz2 := hE.size
          have HY := Lib.hid hy2
          have HOW := Lib.hid hown2
          have HE2 := Lib.hid hE
          have HLT := Lib.hid hown.lt
          clear hcr hcell hown hE hy hy2 hown2
          go_wp2_with (at_builtin; go_loud (refine app_one Try.underlying36 info_re rfl (by decide) (by decide) (keeps_re B) (by decide) rfl _ _ rfl w.heap.size _ _ _ _ _ HOW.out HY.out rfl HY.out.one rfl _ rfl (by simp) hlen (by simp; omega) ?_))
          intro v' w' h1 h2
          have hE3 : Ext w w' := ((HE2.out.alloc _).alloc _).grown h2 (fun k hk => (HLT.out k hk).1)
          rw [← HSn.out] at h1
          clear h2
          go_wp2_with fail
          go_roundg (l.length - (q + 1))
          case measure => have := HQ.out; omega
          case rel => exact ⟨q + 1, by omega, by go_num, by rw [← HAC.out]; exact h1, hE3⟩
        · have hq : q = l.length := by omega
          have HT2 := Lib.hid (show pre ++ (l.take q).map RX.ReN.down = top :: ((parts.take (m + 1)).flatten.map RX.ReN.down) by rw [hq, List.take_length]; exact HF.out)
          clear hq
          rw [HT2.out] at hown
          go_wp2_with fail
          go_roundg (parts.length - (m + 1))
          case measure => have := HM.out; omega
          case rel => exact ⟨m + 1, by omega, by go_num, hown, hE⟩
    · have HT2 := Lib.hid (show top :: ((parts.take m).flatten.map RX.ReN.down) = RX.under top parts by rw [List.take_of_length_le (by omega)]; rfl)
      go_wp2_with fail
      go_ret
      exact ⟨_, rfl, by rw [← HT2.out]; exact HO.out, hE⟩
end Go.Proofs.Ytpcdknfmgacggaa
