/- Words on memory without regular texts: rows of signs, what a call leaves alone, appends. -/
import Derived.Test.YtfblkahjefdmaaaDoorMem
import Derived.Test.YtfblkahjefdmaaaDoorReP
import Derived.Deep.DeepCutAuto
import Derived.Deep.CutBlock
import Derived.IntWalk
namespace Go.Proofs.YtfblkahjefdmaaaDoor
open Go.RowKit

/-- A literal row of elements. -/
def Cc (_ : World) (cs : List Value) (x : Int) : Prop := cs = [.int .i32 x]
theorem keeps_c (T : List TypeId) : Keeps T Cc := fun _ _ _ _ _ h => h
theorem lit_c {B : Nat} (w : World) (xs : List Int) (hb : B ≤ w.heap.size) (hn : xs.length ≤ 1000) :
    OwnB 21 1 Cc B (w.alloc (.cells (xs.map (Value.int .i32)).toArray 21)) (.slice (some ⟨w.heap.size, 0, none⟩) xs.length xs.length) xs :=
  OwnB.lit _ xs _ _ rfl rfl hb (by omega) (by simp) fun k x hx => ⟨[.int .i32 x], rfl, rfl, fun i u hu => by
    match i, hu with
    | 0, hu => simp at hu; subst hu; simp [hx]⟩

abbrev Only (w w' : World) (p : Nat) : Prop := w.grownBy w' (some p)
theorem Only.refl (w : World) (p : Nat) : Only w w p := World.grownBy.refl _ _
theorem Only.of_ext {w w' : World} (h : Ext w w') (p : Nat) : Only w w' p := ⟨Below.os h, Below.tape h, Below.output h, Below.size h, fun i hi _ => Below.block h i hi⟩
theorem Only.trans {a b c : World} {p : Nat} (h : Only a b p) (k : Only b c p) : Only a c p :=
  ⟨k.os.trans h.os, k.tape.trans h.tape, k.output.trans h.output, Nat.le_trans h.size k.size, fun i hi hne => (k.block i (Nat.lt_of_lt_of_le hi h.size) hne).trans (h.block i hi hne)⟩
theorem Only.set {a w : World} {p o : Nat} (h : Only a w p) (u : Value) : Only a (w.setCell ⟨p, o, none⟩ u) p :=
  ⟨h.os, h.tape, h.output, by simpa using h.size, fun i hi hne => (Below.heap_setCell w ⟨p, o, none⟩ u i (by rintro rfl; exact hne rfl)).trans (h.block i hi hne)⟩
theorem Only.drewN {a w : World} {p : Nat} (h : Only a w p) (n : Nat) : Only a (w.drewN n) p := ⟨h.os, h.tape, h.output, h.size, h.block⟩
theorem Only.alloc {a w : World} {p : Nat} (h : Only a w p) (o : Obj) : Only a (w.alloc o) p :=
  ⟨h.os, h.tape, h.output, Nat.le_trans h.size (by simp), fun i hi hne => (Below.heap_alloc w o i (Nat.lt_of_lt_of_le hi h.size)).trans (h.block i hi hne)⟩
theorem Ext.only {a w w' : World} {p : Nat} (h : Ext a w) (k : Only w w' p) (hp : a.heap.size ≤ p) : Ext a w' := h.grown k (by intro q hq; injection hq with hq; omega)
theorem Only.keepT {w w' : World} {p : Nat} (h : Only w w' p) {cur : Array Value} {t : TypeId} (hp : w.heap[p]? = some (.cells cur t (0, 0))) {T : List TypeId} (hT : t ∉ T) : KeepT T w w' :=
  KeepT.of_grown h (by intro g hg; injection hg with hg; subst hg; exact ⟨cur, t, hp, hT⟩)

theorem heap_set {w : World} {p o : Nat} {cs : Array Value} {u : Value} {t : TypeId} (h : w.heap[p]? = some (.cells cs t (0, 0))) : (w.setCell ⟨p, o, none⟩ u).heap[p]? = some (.cells (cs.setIfInBounds o u) t (0, 0)) := by
  simp [World.setCell, Array.getElem?_modify, h]
theorem dd {w : World} {a b : Nat} : ∃ n, (w.drewN a).drewN b = w.drewN n := ⟨a + b, by rw [World.drewN_drewN]⟩
theorem OwnB.weak {α : Type} {t sz : Nat} {C : World → List Value → α → Prop} {base base' : Nat} {w : World} {v : Value} {xs : List α} (h : OwnB t sz C base w v xs) (hb : base' ≤ base) : OwnB t sz C base' w v xs := by
  obtain ⟨flat, ⟨h1, h2⟩, h3⟩ := h
  refine ⟨flat, ⟨h1, ?_⟩, h3⟩
  rcases h2 with h2 | ⟨g, cap, cur, q1, q2, q3⟩
  · exact .inl h2
  · exact .inr ⟨g, cap, cur, q1, Nat.le_trans hb q2, q3⟩
/-- The blocks from B on are as they were. -/
def KeepB (B : Nat) (w w' : World) : Prop := ∀ g o, B ≤ g → w.heap[g]? = some o → w'.heap[g]? = some o
def KeepsB (B : Nat) {α : Type} (C : World → List Value → α → Prop) : Prop := ∀ w w' cs x, KeepB B w w' → C w cs x → C w' cs x
theorem SlB.keepB {α : Type} {t sz B : Nat} {C : World → List Value → α → Prop} {w w' : World} {v : Value} {xs : List α} (h : SlB t sz C B w v xs) (hC : KeepsB B C) (hk : KeepB B w w') : SlB t sz C B w' v xs := by
  obtain ⟨A, c, hv, hl, hc, hn, ha⟩ := h
  refine ⟨A, c, hv, hl, hc, hn, fun ad had => ?_⟩
  obtain ⟨g, o, cur, h1, h2, h3, h4, h5⟩ := ha ad had
  refine ⟨g, o, cur, h1, h2, hk g _ h2 h3, h4, fun k x hx => ?_⟩
  obtain ⟨cs, h6, h7⟩ := h5 k x hx
  exact ⟨cs, hC _ _ _ _ hk h6, h7⟩
theorem keepsB_c (B : Nat) : KeepsB B Cc := fun _ _ _ _ _ h => h
theorem KeepB.only {rb : Nat} {w w' : World} (h : Only w w' rb) : KeepB (rb + 1) w w' := fun g o hg ho => (h.block g (heap_lt ho) (by intro e; injection e with e; omega)).trans ho
theorem SlB.only {α : Type} {t sz rb : Nat} {C : World → List Value → α → Prop} {w w' : World} {v : Value} {xs : List α} (h : SlB t sz C (rb + 1) w v xs) (hC : KeepsB (rb + 1) C) (ho : Only w w' rb) : SlB t sz C (rb + 1) w' v xs := h.keepB hC (KeepB.only ho)
theorem SlB.setrb {rb t o : Nat} {u : Value} {w : World} {v : Value} {xs : List Int} (h : SlB t 1 Cc (rb + 1) w v xs) : SlB t 1 Cc (rb + 1) (w.setCell ⟨rb, o, none⟩ u) v xs := h.only (keepsB_c _) ((Only.refl w rb).set u)
theorem SlB.drewN {rb t n : Nat} {w : World} {v : Value} {xs : List Int} (h : SlB t 1 Cc (rb + 1) w v xs) : SlB t 1 Cc (rb + 1) (w.drewN n) v xs := h.only (keepsB_c _) ((Only.refl w rb).drewN n)
theorem SlB.alloc {rb t : Nat} {o : Obj} {w : World} {v : Value} {xs : List Int} (h : SlB t 1 Cc (rb + 1) w v xs) : SlB t 1 Cc (rb + 1) (w.alloc o) v xs := h.only (keepsB_c _) ((Only.refl w rb).alloc o)
theorem info_c : (Tryd.prog.info? 21).map (fun i => (i.zero, i.size, i.bytes)) = some (some (.int .i32 0), 1, 4) := by kernel_rfl

theorem c_lit {B : Nat} (w : World) (xs : List Int) (nb n : Nat) (hnb : nb = w.heap.size) (hn' : n = xs.length) (hb : B ≤ w.heap.size) (hn : xs.length ≤ 1000) :
    SlB 21 1 Cc B (w.alloc (.cells (xs.map (Value.int .i32)).toArray 21)) (.slice (some ⟨nb, 0, none⟩) n n) xs := by
  subst hnb hn'; exact (lit_c w xs hb hn).sl
theorem c_lit2 {B nb : Nat} {w : World} {a b : Int} (hnb : nb = w.heap.size) (hb : B ≤ w.heap.size) : SlB 21 1 Cc B (w.alloc (.cells #[.int .i32 a, .int .i32 b] 21)) (.slice (some ⟨nb, 0, none⟩) 2 2) [a, b] := c_lit w [a, b] _ _ hnb rfl hb (by simp)
theorem KeepB.low {rb B : Nat} {w w' : World} (h : Only w w' rb) (hb : rb < B) : KeepB B w w' := fun g o hg ho => (h.block g (heap_lt ho) (by intro e; injection e with e; omega)).trans ho
theorem OwnB.keepB {α : Type} {t sz B : Nat} {C : World → List Value → α → Prop} {w w' : World} {v : Value} {xs : List α} (h : OwnB t sz C B w v xs) (hC : KeepsB B C) (hk : KeepB B w w') : OwnB t sz C B w' v xs := by
  obtain ⟨flat, hown, h2⟩ := h
  refine ⟨flat, ⟨hown.1, ?_⟩, fun k x hx => ?_⟩
  · rcases hown.2 with hn | ⟨g, cap, cur, hv, hb, hg, rest⟩
    · exact .inl hn
    · exact .inr ⟨g, cap, cur, hv, hb, hk g _ hb hg, rest⟩
  · obtain ⟨cs, h6, h7⟩ := h2 k x hx
    exact ⟨cs, hC _ _ _ _ hk h6, h7⟩
theorem OwnB.flat_i32 {B : Nat} {w : World} {v : Value} {xs : List Int} (h : OwnB 21 1 Cc B w v xs) : w.ownsRow B 21 1 v xs.length (xs.map (Value.int .i32)) := by
  obtain ⟨flat, hown, h2⟩ := h
  have e : flat = xs.map (Value.int .i32) := by
    apply List.ext_getElem?
    intro k
    rcases Nat.lt_or_ge k xs.length with hk | hk
    · obtain ⟨cs, h3, h4, h5⟩ := h2 k _ (List.getElem?_eq_getElem hk)
      have h3 : cs = _ := h3
      subst h3
      have h6 := h5 0 (.int .i32 xs[k]) rfl
      rw [Nat.mul_one, Nat.add_zero] at h6
      rw [h6, List.getElem?_map, List.getElem?_eq_getElem hk]; rfl
    · have hl := hown.1
      rw [List.getElem?_eq_none (by rw [hl]; omega), List.getElem?_eq_none (by simpa using hk)]
  exact e ▸ hown
theorem OwnB.of_flat_i32 {B : Nat} {w : World} {v : Value} {xs : List Int} (h : w.ownsRow B 21 1 v xs.length (xs.map (Value.int .i32))) : OwnB 21 1 Cc B w v xs :=
  ⟨_, h, fun k x hx => ⟨[.int .i32 x], rfl, rfl, fun i u hu => by
    match i, hu with
    | 0, hu => simp at hu; subst hu; simp [hx]⟩⟩

theorem cells_map {w : World} {ad : Addr} {ys : List Int} (hc : ∀ j y, ys[j]? = some y → w.cell? (ad.add j) = some (.int .i32 y)) : ∀ j u, (ys.map (Value.int .i32))[j]? = some u → w.cell? (ad.add j) = some u := by
  intro j u hu
  rw [List.getElem?_map, Option.map_eq_some_iff] at hu
  obtain ⟨y, hy, rfl⟩ := hu
  exact hc j y hy
section
variable {w : World} {ops : Array Oper} {rest : List Oper} {o : Oper} {a : Act} {Q : Exit → Act → World → Prop}
theorem app_i32 (hgd : o.guard = none) (s x : Operand) (ho : o.op = .call { callee := .builtin .append, args := #[s, x], argTypes := #[22, 22] })
    (B : Nat) (v : Value) (xs ys : List Int) (hown : OwnB 21 1 Cc B w v xs) (hs : a.eval s = v) (ad : Addr) (m c : Nat) (hx : a.eval x = .slice (some ad) m c) (hm : m = ys.length)
    (hc : ∀ j y, ys[j]? = some y → w.cell? (ad.add j) = some (.int .i32 y)) (hn : xs.length + ys.length ≤ 35184372088832) (hB : B ≤ w.heap.size)
    (h : ∀ v' w', OwnB 21 1 Cc B w' v' (xs ++ ys) → w.grownBy w' v.ownBlock → wpList Tryd.prog ops Q rest (a.put o.dst v') w') :
    wpList Tryd.prog ops Q (o :: rest) a w := by
  subst hm
  obtain ⟨i0, hi, hz0, hz1, hz2⟩ := info_parts info_c
  refine wpList_append_own (P := Tryd.prog) (w := w) hgd s x _ ho B 21 i0 (.int .i32 0) 1 4 Tryd.underlying22 hi hz0 hz1 hz2 rfl (by decide) v xs.length _ hs hown.flat_i32 ad ys.length c (ys.map (Value.int .i32)) hx (by simp) ?_ ?_ (by unfold maxLen; omega) (by omega) hB ?_
  · exact cells_map hc
  · intro u hu
    simp at hu
    obtain ⟨y, _, rfl⟩ := hu
    rfl
  · intro v' w' h1 h2 _
    refine h v' w' (OwnB.of_flat_i32 ?_) h2
    rw [List.map_append, List.length_append]
    exact h1
end

/-- Behind an append to a row of one's own that lies beyond nb. -/
theorem Only.own {a w w' : World} {p nb : Nat} {v : Value} (h : Only a w p) (hk : w.grownBy w' v.ownBlock) (hv : ∀ k, v.ownBlock = some k → nb ≤ k) (hn : a.heap.size ≤ nb) : Only a w' p :=
  ⟨hk.os.trans h.os, hk.tape.trans h.tape, hk.output.trans h.output, Nat.le_trans h.size hk.size, fun i hi hne =>
    (hk.block i (Nat.lt_of_lt_of_le hi h.size) (by intro e; have := hv i e.symm; omega)).trans (h.block i hi hne)⟩
theorem Only.own2 {w w' : World} {nb : Nat} {v : Value} (hk : w.grownBy w' v.ownBlock) (hv : ∀ k, v.ownBlock = some k → nb ≤ k) : ∀ i, i < nb → i < w.heap.size → w'.heap[i]? = w.heap[i]? :=
  fun i hi hl => hk.block i hl (by intro e; have := hv i e.symm; omega)
theorem OwnB.setlow {rb t o B : Nat} {u : Value} {w : World} {v : Value} {xs : List Int} (hb : rb < B) (h : OwnB t 1 Cc B w v xs) : OwnB t 1 Cc B (w.setCell ⟨rb, o, none⟩ u) v xs := h.keepB (keepsB_c _) (KeepB.low ((Only.refl w rb).set u) hb)
theorem OwnB.drewN {t n B : Nat} {w : World} {v : Value} {xs : List Int} (h : OwnB t 1 Cc B w v xs) : OwnB t 1 Cc B (w.drewN n) v xs := h
theorem OwnB.allocs {t B : Nat} {o : Obj} {w : World} {v : Value} {xs : List Int} (h : OwnB t 1 Cc B w v xs) : OwnB t 1 Cc B (w.alloc o) v xs := h.keepB (keepsB_c _) (fun _ _ _ ho => ((Ext.refl w).alloc _).heap ho)
theorem OwnB.low {rb t B : Nat} {w w' : World} {v : Value} {xs : List Int} (h : OwnB t 1 Cc B w v xs) (ho : Only w w' rb) (hb : rb < B) : OwnB t 1 Cc B w' v xs := h.keepB (keepsB_c _) (KeepB.low ho hb)
theorem two_cells {w : World} {nb : Nat} {a b : Int} {t : TypeId} (hnb : nb = w.heap.size) : ∀ j y, [a, b][j]? = some y → (w.alloc (.cells #[.int .i32 a, .int .i32 b] t)).cell? ((⟨nb, 0, none⟩ : Addr).add j) = some (.int .i32 y) := by
  subst hnb
  intro j y hy
  refine news_all w [.int .i32 a, .int .i32 b] t j _ ?_
  match j, hy with
  | 0, hy => simp at hy; subst hy; rfl
  | 1, hy => simp at hy; subst hy; rfl
theorem SlB.add {t B n c : Nat} {w : World} {ad : Addr} {xs : List Int} (h : SlB t 1 Cc B w (.slice (some ad) n c) xs) : ∀ j y, xs[j]? = some y → w.cell? (ad.add j) = some (.int .i32 y) := by
  intro j y hy
  have hj : j < xs.length := by
    rcases Nat.lt_or_ge j xs.length with h | h
    · exact h
    · rw [List.getElem?_eq_none h] at hy; cases hy
  obtain ⟨g, o, cs, h1, h2, h3⟩ := h.at_ hj
  injection h1 with h1
  subst h1
  have h2 : cs = _ := h2
  subst h2
  have h4 := h3 0 _ rfl
  rw [List.getElem?_eq_getElem hj] at hy
  injection hy with hy
  subst hy
  rw [Nat.mul_one, Nat.add_zero] at h4
  have : (⟨g, o, none⟩ : Addr).add j = ⟨g, o + j, none⟩ := by unfold Addr.add; simp
  rw [this]
  exact h4
theorem SlB.none_ {α : Type} {t sz : Nat} {C : World → List Value → α → Prop} {b : Nat} {w : World} {n c : Nat} {xs : List α} (h : SlB t sz C b w (.slice none n c) xs) : xs = [] ∧ n = 0 ∧ c = 0 := by
  obtain ⟨A, c', hv, hl, _, hn, _⟩ := h
  injection hv with h1 h2 h3
  have h4 := hn h1.symm
  have h5 : xs.length = 0 := by omega
  exact ⟨List.eq_nil_of_length_eq_zero h5, by omega, by omega⟩
/-- append(v, src...) of signs, whatever the source. -/
theorem app_src {w : World} {ops : Array Oper} {rest : List Oper} {o : Oper} {a : Act} {Q : Exit → Act → World → Prop} (hgd : o.guard = none) (s x : Operand) (ho : o.op = .call { callee := .builtin .append, args := #[s, x], argTypes := #[22, 22] })
    (B b : Nat) (v src : Value) (xs ys : List Int) (hown : OwnB 21 1 Cc B w v xs) (hs : a.eval s = v) (hx : a.eval x = src) (hsrc : SlB 21 1 Cc b w src ys)
    (hn : xs.length + ys.length ≤ 35184372088832) (hB : B ≤ w.heap.size)
    (h : ∀ v' w', OwnB 21 1 Cc B w' v' (xs ++ ys) → w.grownBy w' v.ownBlock → wpList Tryd.prog ops Q rest (a.put o.dst v') w') :
    wpList Tryd.prog ops Q (o :: rest) a w := by
  obtain ⟨i0, hi, hz0, hz1, hz2⟩ := info_parts info_c
  obtain ⟨A, c, rfl, hl, hc⟩ := hsrc.form
  cases A with
  | none =>
    obtain ⟨hy, hl0, hc0⟩ := SlB.none_ hsrc
    subst hy hc0
    refine wpList_append_own_none hgd s x 22 ho B 21 i0 1 Tryd.underlying22 hi v xs.length (xs.map (Value.int .i32)) hs hown.flat_i32 hx ?_
    exact h v w (by rw [List.append_nil]; exact hown) (World.grownBy.refl _ _)
  | some ad =>
    refine wpList_append_own (P := Tryd.prog) (w := w) hgd s x _ ho B 21 i0 (.int .i32 0) 1 4 Tryd.underlying22 hi hz0 hz1 hz2 rfl (by decide) v xs.length _ hs hown.flat_i32 ad ys.length c (ys.map (Value.int .i32)) hx (by simp) ?_ ?_ (by unfold maxLen; omega) (by omega) hB ?_
    · exact cells_map (SlB.add hsrc)
    · intro u hu
      simp at hu
      obtain ⟨y, _, rfl⟩ := hu
      rfl
    · intro v' w' h1 h2 _
      refine h v' w' (OwnB.of_flat_i32 ?_) h2
      rw [List.map_append, List.length_append]
      exact h1

theorem one_cells {w : World} {nb : Nat} {a : Int} {t : TypeId} (hnb : nb = w.heap.size) : ∀ j y, [a][j]? = some y → (w.alloc (.cells #[.int .i32 a] t)).cell? ((⟨nb, 0, none⟩ : Addr).add j) = some (.int .i32 y) := by
  subst hnb
  intro j y hy
  refine news_all w [.int .i32 a] t j _ ?_
  match j, hy with
  | 0, hy => simp at hy; subst hy; rfl
theorem wrap_byte (x : UInt8) : wrap32 (x.toNat : Int) = x.toNat := by
  have := UInt8.toNat_lt x
  unfold wrap32
  omega
theorem SlB.slc {t B : Nat} {w : World} {v : Value} {xs : List Int} (h : SlB t 1 Cc B w v xs) : SlC w v xs := by
  obtain ⟨A, c, rfl, hl, hc, hn, ha⟩ := h
  refine ⟨A, c, rfl, hl, hc, fun k x hx => ?_, hn⟩
  cases A with
  | none =>
    have := hn rfl
    rw [List.getElem?_eq_none (by omega)] at hx; cases hx
  | some ad =>
    obtain ⟨g, o, cur, rfl, _, h3, _, h5⟩ := ha ad rfl
    obtain ⟨cs, h6, h7⟩ := h5 k x hx
    have h6 : cs = _ := h6
    subst h6
    exact ⟨g, o, rfl, (cell_of_row w g _ cur t (0, 0) h3).trans (h7 0 _ rfl)⟩
/-- The call returned v, and only drew. -/
def RetD (v : Value) (w : World) (e : Ending) (w' : World) : Prop := e = .returned v ∧ ∃ n, w' = w.drewN n
theorem RetD.mk {v : Value} {w : World} : RetD v w (.returned v) w := ⟨rfl, 0, rfl⟩

end Go.Proofs.YtfblkahjefdmaaaDoor
