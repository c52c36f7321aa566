/- Walks: parts that are read: end of package format. -/
import Derived.Test.YtfblkahjefdmaaaDoorFdF
import Derived.Deep.RegionLaw
import Derived.Deep.AppendLies
namespace Go.Proofs.YtfblkahjefdmaaaDoor
open Go.RowKit

theorem info_form : (Tryd.prog.info? 34).map (fun i => (i.zero, i.size, i.bytes)) = some (some (.agg #[.int .i64 0, .int .i64 0, .int .i64 0, .slice none 0 0, .slice none 0 0]), 5, 72) := by kernel_rfl
/-- A value that is a slice lies in a block below T. -/
def Blo (T : Nat) (v : Value) : Prop := ∀ (ad : Addr) (n c : Nat), v = .slice (some ad) n c → ad.block < T
theorem Blo.nil_ {T : Nat} : Blo T (.slice none 0 0) := by intro ad n c h; cases h
theorem Blo.mono {T T' : Nat} {v : Value} (h : Blo T v) (hT : T ≤ T') : Blo T' v := fun ad n c e => Nat.lt_of_lt_of_le (h ad n c e) hT
/-- Rows of signs in blocks below T are as they were. -/
def KLt (T : Nat) (w w' : World) : Prop := ∀ (g : Nat) (cur : Array Value), g < T → w.heap[g]? = some (.cells cur 21 (0, 0)) → w'.heap[g]? = some (.cells cur 21 (0, 0))
theorem KLt.of_keepT {T : Nat} {w w' : World} (h : KeepT [21] w w') : KLt T w w' := fun g cur _ hg => h g cur _ (by simp) hg
theorem SlB.keepLt {B T : Nat} {w w' : World} {v : Value} {xs : List Int} (h : SlB 21 1 Cc B w v xs) (hb : Blo T v) (hk : KLt T w w') : SlB 21 1 Cc B w' v xs := by
  obtain ⟨A, c, hv, hl, hc, hn, ha⟩ := h
  refine ⟨A, c, hv, hl, hc, hn, fun ad had => ?_⟩
  obtain ⟨g, o, cur, h1, h2, h3, h4, h5⟩ := ha ad had
  refine ⟨g, o, cur, h1, h2, hk g cur ?_ h3, h4, h5⟩
  have := hb ad xs.length c (by rw [hv, had])
  rw [h1] at this; exact this
/-- As CF, the texts in blocks below T. -/
def CFT (B T : Nat) (w : World) (cs : List Value) (f : FM.Form) : Prop :=
  ∃ vt ve, cs = [.int .i64 f.kind, .int .i64 f.group, .int .i64 f.cas, vt, ve] ∧ (SlB 21 1 Cc B w vt f.text ∧ Blo T vt) ∧ SlB 21 1 Cc B w ve f.els ∧ Blo T ve
theorem CFT.keep {B T : Nat} {w w' : World} {cs : List Value} {f : FM.Form} (h : CFT B T w cs f) (hk : KLt T w w') : CFT B T w' cs f := by
  obtain ⟨vt, ve, h1, ⟨h2, h3⟩, h4, h5⟩ := h
  exact ⟨vt, ve, h1, ⟨h2.keepLt h3 hk, h3⟩, h4.keepLt h5 hk, h5⟩
theorem CFT.mono {B T T' : Nat} {w : World} {cs : List Value} {f : FM.Form} (h : CFT B T w cs f) (hT : T ≤ T') : CFT B T' w cs f := by
  obtain ⟨vt, ve, h1, ⟨h2, h3⟩, h4, h5⟩ := h
  exact ⟨vt, ve, h1, ⟨h2, h3.mono hT⟩, h4, h5.mono hT⟩
theorem CFT.cf {B T : Nat} {w : World} {cs : List Value} {f : FM.Form} (h : CFT B T w cs f) : CF B w cs f := by
  obtain ⟨vt, ve, h1, ⟨h2, h3⟩, h4, h5⟩ := h
  exact ⟨vt, ve, h1, h2, h4⟩
theorem keeps_ft (B T : Nat) : Keeps [21] (CFT B T) := fun _ _ _ _ hk h => h.keep (KLt.of_keepT hk)
theorem SlB.blo {t sz B : Nat} {α : Type} {C : World → List Value → α → Prop} {w : World} {v : Value} {xs : List α} (h : SlB t sz C B w v xs) : Blo w.heap.size v := by
  obtain ⟨A, c, hv, hl, hc, hn, ha⟩ := h
  intro ad n c' e
  rw [hv] at e
  injection e with e1 e2 e3
  obtain ⟨g, o, cur, h1, h2, h3, _⟩ := ha ad e1
  rw [h1]; exact heap_lt h3
theorem CF.cft {B : Nat} {w : World} {cs : List Value} {f : FM.Form} (h : CF B w cs f) : CFT B w.heap.size w cs f := by
  obtain ⟨vt, ve, h1, h2, h3⟩ := h
  exact ⟨vt, ve, h1, ⟨h2, h2.blo⟩, h3, h3.blo⟩
/-- An own row, kept where its block and what its elements ask is kept. -/
theorem OwnB.keepG {α : Type} {t sz B : Nat} {C C' : World → List Value → α → Prop} {w w' : World} {v : Value} {xs : List α} (h : OwnB t sz C B w v xs) (hC : ∀ cs x, C w cs x → C' w' cs x)
    (ht : ∀ g cur, v.ownBlock = some g → w.heap[g]? = some (.cells cur t (0, 0)) → w'.heap[g]? = some (.cells cur t (0, 0))) : OwnB t sz C' B w' v xs := by
  obtain ⟨flat, hown, h2⟩ := h
  refine ⟨flat, ⟨hown.1, ?_⟩, fun k x hx => ?_⟩
  · rcases hown.2 with hn | ⟨g, cap, cur, hv, hb, hg, rest⟩
    · exact .inl hn
    · exact .inr ⟨g, cap, cur, hv, hb, ht g cur (by rw [hv]; rfl) hg, rest⟩
  · obtain ⟨cs, h6, h7⟩ := h2 k x hx
    exact ⟨cs, hC _ _ h6, h7⟩

/-- Inside of Scan: the box xb of the parts and the text that are read so far; texts of parts lie below T, the text's own row from T on. -/
structure Scs (w : World) (xb T : Nat) (vl vt : Value) (fs : List FM.Form) (tx : List Int) (wr : World) : Prop where
  ext : Ext w wr
  box : wr.heap[xb]? = some (.cells #[vl, vt] 67 (0, 0))
  lo : w.heap.size ≤ xb
  hi : xb < T
  top : T ≤ wr.heap.size
  own : OwnB 34 5 (CFT w.heap.size T) (xb + 1) wr vl fs
  txt : OwnB 21 1 Cc T wr vt tx
  nil : tx = [] → vt = .slice none 0 0
section
variable {w wr w' : World} {xb T : Nat} {vl vt vl' vt' : Value} {fs fs' : List FM.Form} {tx tx' : List Int}
theorem Scs.ext_ (h : Scs w xb T vl vt fs tx wr) (hx : Ext wr w') : Scs w xb T vl vt fs tx w' :=
  ⟨h.ext.trans hx, hx.heap h.box, h.lo, h.hi, Nat.le_trans h.top hx.size, h.own.keepG (fun _ _ hc => hc.keep (fun _ _ _ hg => hx.heap hg)) (fun _ _ _ hg => hx.heap hg), h.txt.keepG (fun _ _ hc => hc) (fun _ _ _ hg => hx.heap hg), h.nil⟩
theorem Scs.c0 (h : Scs w xb T vl vt fs tx wr) : wr.cell? ⟨xb, 0, none⟩ = some vl := cell_of_row wr xb 0 _ _ _ h.box
theorem Scs.c1 (h : Scs w xb T vl vt fs tx wr) : wr.cell? ⟨xb, 1, none⟩ = some vt := cell_of_row wr xb 1 _ _ _ h.box
theorem Scs.fr (h : Scs w xb T vl vt fs tx wr) (o : Nat) : wr.frozen? ⟨xb, o, none⟩ = false := frozen_of_row wr xb o _ _ h.box
end
section
variable {α : Type} {P : Program} {w : World} {ops : Array Oper} {rest : List Oper} {o : Oper} {a : Act} {Q : Exit → Act → World → Prop}
/-- As app_one, for longer rows of smaller elements. -/
theorem app_big {t te sz bytes : Nat} {z : Value} (ht : P.underlying t = some (.slice te)) (hinf : (P.info? te).map (fun i => (i.zero, i.size, i.bytes)) = some (some z, sz, bytes)) (hzs : z.cells.size = sz) (hsz : 0 < sz) (hby : bytes ≤ 100)
    {T : List TypeId} {C : World → List Value → α → Prop} (hC : Keeps T C) (hT : te ∉ T)
    (hgd : o.guard = none) (s x : Operand) (ho : o.op = .call { callee := .builtin .append, args := #[s, x], argTypes := #[t, t] })
    (B : Nat) (v : Value) (xs : List α) (y : α) (cs : List Value) (tb : TypeId) (hown : OwnB te sz C B w v xs) (hy : C w cs y) (hcs : cs.length = sz) (h1 : ∀ u ∈ cs, u.oneCell' = true)
    (hs : a.eval s = v) (nb : Nat) (hx : a.eval x = .slice (some ⟨nb, 0, none⟩) 1 1) (hnb : nb = w.heap.size) (hn : xs.length ≤ 1000000000) (hB : B ≤ w.heap.size)
    (h : ∀ v' w', OwnB te sz C B w' v' (xs ++ [y]) → (w.alloc (.cells cs.toArray tb)).grownBy w' v.ownBlock → wpList P ops Q rest (a.put o.dst v') w') :
    wpList P ops Q (o :: rest) a (w.alloc (.cells cs.toArray tb)) := by
  subst hnb
  obtain ⟨i0, hi, hz0, hz1, hz2⟩ := info_parts hinf
  obtain ⟨flat, hr, h2⟩ := hown
  refine wpList_append_own _ hgd s x t ho B te i0 z sz bytes ht hi hz0 hz1 hz2 hzs hsz v xs.length flat hs (World.ownsRow.alloc hr _) ⟨w.heap.size, 0, none⟩ 1 1 cs hx (by omega) (news_all _ _ _) h1 (by unfold maxLen; omega) (Nat.le_trans (Nat.mul_le_mul (show xs.length + 1 ≤ 1000000001 by omega) hby) (by omega)) (by simp; omega) ?_
  intro v' w' h3 h4 _
  refine h v' w' (OwnB.snoc h2 hr.1 hC ?_ hy hcs h3) h4
  refine (KeepT.of_ext ((Ext.refl w).alloc _)).trans (KeepT.of_grown h4 (fun g hg => ?_))
  obtain ⟨cur, hh⟩ := own_type hr g hg
  exact ⟨cur, te, ((Ext.refl w).alloc _).heap hh, hT⟩
end
/-- append(v, x) of one element, as a step of a region that draws its order. -/
theorem step_one {α : Type} {P : Program} {w : World} {ops : Array Oper} {o : Oper} {a : Act} {K : Act → World → Prop} {Q : Exit → Act → World → Prop} {E : Prop} {t te sz bytes : Nat} {z : Value}
    (ht : P.underlying t = some (.slice te)) (hinf : (P.info? te).map (fun i => (i.zero, i.size, i.bytes)) = some (some z, sz, bytes)) (hzs : z.cells.size = sz) (hsz : 0 < sz) (hby : bytes ≤ 100)
    {T : List TypeId} {C : World → List Value → α → Prop} (hC : Keeps T C) (hT : te ∉ T)
    (hgd : o.guard = none) (s x : Operand) (ho : o.op = .call { callee := .builtin .append, args := #[s, x], argTypes := #[t, t] })
    (B : Nat) (v : Value) (xs : List α) (y : α) (cs : List Value) (tb : TypeId) (hown : OwnB te sz C B w v xs) (hy : C w cs y) (hcs : cs.length = sz) (h1 : ∀ u ∈ cs, u.oneCell' = true)
    (hs : a.eval s = v) (nb : Nat) (hx : a.eval x = .slice (some ⟨nb, 0, none⟩) 1 1) (hnb : nb = w.heap.size) (hn : xs.length ≤ 1000000000) (hB : B ≤ w.heap.size)
    (h : ∀ g cap w', OwnB te sz C B w' (.slice (some ⟨g, 0, none⟩) (xs.length + 1) cap) (xs ++ [y]) → (w.alloc (.cells cs.toArray tb)).drew.grownBy w' v.ownBlock → K (a.put o.dst (.slice (some ⟨g, 0, none⟩) (xs.length + 1) cap)) w') :
    if Region.wanted o (yielded ops a.tmps) = true then Oper.wp P o a (w.alloc (.cells cs.toArray tb)).drew K Q else E := by
  subst hnb
  obtain ⟨i0, hi, hz0, hz1, hz2⟩ := info_parts hinf
  obtain ⟨flat, hr, h2⟩ := hown
  refine step_append_lies _ hgd s x t ho B te i0 z sz bytes ht hi hz0 hz1 hz2 hzs hsz v xs.length flat hs ((World.ownsRow.alloc hr _).drew) ⟨w.heap.size, 0, none⟩ 1 1 cs hx (by omega) (fun j u hu => news_all w cs tb j u hu) h1 (by decide) (by unfold maxLen; omega) (Nat.le_trans (Nat.mul_le_mul (show xs.length + 1 ≤ 1000000001 by omega) hby) (by omega)) (by simp; omega) _ rfl ?_
  intro g cap w' h3 h4 _ _
  refine h g cap w' (OwnB.snoc h2 hr.1 hC ?_ hy hcs h3) h4
  refine (KeepT.of_ext (((Ext.refl w).alloc _).drew)).trans (KeepT.of_grown h4 (fun g hg => ?_))
  obtain ⟨cur, hh⟩ := own_type hr g hg
  exact ⟨cur, te, (((Ext.refl w).alloc _).drew).heap hh, hT⟩
section
variable {w wr w' : World} {xb T : Nat} {vl vt vl' vt' v' : Value} {fs fs' : List FM.Form} {tx tx' : List Int}
theorem heap_ne {w : World} {g h o : Nat} {u : Value} (hne : g ≠ h) : (w.setCell ⟨h, o, none⟩ u).heap[g]? = w.heap[g]? := Below.heap_setCell w ⟨h, o, none⟩ u g hne
theorem Scs.boxF (h : Scs w xb T vl vt fs tx wr) (h2 : wr.grownBy w' vl.ownBlock) : w'.heap[xb]? = some (.cells #[vl, vt] 67 (0, 0)) :=
  (h2.block xb (heap_lt h.box) (by intro e; have := (h.own.lt xb e.symm).1; omega)).trans h.box
theorem Scs.boxT (h : Scs w xb T vl vt fs tx wr) (h2 : wr.grownBy w' vt.ownBlock) : w'.heap[xb]? = some (.cells #[vl, vt] 67 (0, 0)) :=
  (h2.block xb (heap_lt h.box) (by intro e; have := (h.txt.lt xb e.symm).1; have := h.hi; omega)).trans h.box
/-- Behind an append to the text, and its store. -/
theorem Scs.appT (h : Scs w xb T vl vt fs tx wr) (hne' : tx' ≠ []) (h1 : OwnB 21 1 Cc T w' v' tx') (h2 : wr.grownBy w' vt.ownBlock) : Scs w xb T vl v' fs tx' (w'.setCell ⟨xb, 1, none⟩ v') := by
  have hlt := fun k hk => (h.txt.lt k hk).1
  have hxb := heap_lt h.box
  have hbox : w'.heap[xb]? = some (.cells #[vl, vt] 67 (0, 0)) := (h2.block xb hxb (by intro e; have := hlt xb e.symm; have := h.hi; omega)).trans h.box
  have hne : ∀ g cur t, t ≠ 67 → w'.heap[g]? = some (.cells cur t (0, 0)) → g ≠ xb := by
    intro g cur t ht hg e
    subst e
    rw [hbox] at hg
    injection hg with hg
    injection hg with _ hg _
    exact ht hg.symm
  refine ⟨(h.ext.grown h2 (fun k hk => by have := hlt k hk; have := h.hi; have := h.lo; omega)).set (p := ⟨xb, 1, none⟩) h.lo _, heap_set hbox, h.lo, h.hi, Nat.le_trans h.top (Nat.le_trans h2.size (by simp)), ?_, ?_, fun e => absurd e hne'⟩
  · refine h.own.keepG (fun _ _ hc => hc.keep (fun g cur hg hh => ?_)) (fun g cur hg hh => ?_)
    · have h3 : w'.heap[g]? = some (.cells cur 21 (0, 0)) := (h2.block g (heap_lt hh) (by intro e; have := hlt g e.symm; omega)).trans hh
      rw [heap_ne (hne g _ _ (by decide) h3)]; exact h3
    · have h3 : w'.heap[g]? = some (.cells cur 34 (0, 0)) := (h2.block g (heap_lt hh) (by
        intro e
        obtain ⟨cur2, h4⟩ := h.txt.type g e.symm
        rw [hh] at h4
        injection h4 with h4
        injection h4 with _ h4 _
        exact absurd h4 (by decide))).trans hh
      rw [heap_ne (hne g _ _ (by decide) h3)]; exact h3
  · refine h1.keepG (fun _ _ hc => hc) (fun g cur hg hh => ?_)
    rw [heap_ne (hne g _ _ (by decide) hh)]; exact hh
/-- What an append of a part asks. -/
theorem Scs.ownTop (h : Scs w xb T vl vt fs tx wr) : OwnB 34 5 (CFT w.heap.size wr.heap.size) (xb + 1) wr vl fs := h.own.keepG (fun _ _ hc => hc.mono h.top) (fun _ _ _ hg => hg)
theorem Scs.fts (h : Scs w xb T vl vt fs tx wr) : CFT w.heap.size wr.heap.size wr [.int .i64 0, .int .i64 0, .int .i64 0, vt, .slice none 0 0] ⟨0, 0, 0, tx, []⟩ :=
  ⟨vt, _, rfl, ⟨h.txt.sl.weaken (by have := h.lo; have := h.hi; omega), h.txt.sl.blo⟩, SlB.nil_, Blo.nil_⟩
/-- Behind an append to the parts, its store, and that of an empty text. -/
theorem Scs.appF {T' : Nat} (h : Scs w xb T vl vt fs tx wr) (h1 : OwnB 34 5 (CFT w.heap.size T') (xb + 1) w' v' fs') (hT' : T' ≤ w'.heap.size) (h2 : wr.grownBy w' vl.ownBlock) :
    Scs w xb w'.heap.size v' (.slice none 0 0) fs' [] ((w'.setCell ⟨xb, 0, none⟩ v').setCell ⟨xb, 1, none⟩ (.slice none 0 0)) := by
  have hlt := fun k hk => (h.own.lt k hk).1
  have hxb := heap_lt h.box
  have hbox : w'.heap[xb]? = some (.cells #[vl, vt] 67 (0, 0)) := (h2.block xb hxb (by intro e; have := hlt xb e.symm; omega)).trans h.box
  have hne : ∀ g cur t, t ≠ 67 → w'.heap[g]? = some (.cells cur t (0, 0)) → g ≠ xb := by
    intro g cur t ht hg e
    subst e
    rw [hbox] at hg
    injection hg with hg
    injection hg with _ hg _
    exact ht hg.symm
  have hxb' := heap_lt hbox
  refine ⟨((h.ext.grown h2 (fun k hk => by have := hlt k hk; have := h.lo; omega)).set (p := ⟨xb, 0, none⟩) h.lo _).set (p := ⟨xb, 1, none⟩) h.lo _, heap_set (heap_set hbox), h.lo, hxb', by simp, ?_, OwnB.nil_, fun _ => rfl⟩
  refine h1.keepG (fun _ _ hc => (hc.mono hT').keep (fun g cur hg hh => ?_)) (fun g cur hg hh => ?_)
  · have hn := hne g _ _ (by decide) hh
    rw [heap_ne hn, heap_ne hn]; exact hh
  · have hn := hne g _ _ (by decide) hh
    rw [heap_ne hn, heap_ne hn]; exact hh
/-- The same, where the text is empty already. -/
theorem Scs.appG {T' : Nat} (h : Scs w xb T vl (.slice none 0 0) fs [] wr) (h1 : OwnB 34 5 (CFT w.heap.size T') (xb + 1) w' v' fs') (hT' : T' ≤ w'.heap.size) (h2 : wr.grownBy w' vl.ownBlock) :
    Scs w xb w'.heap.size v' (.slice none 0 0) fs' [] (w'.setCell ⟨xb, 0, none⟩ v') := by
  have hlt := fun k hk => (h.own.lt k hk).1
  have hxb := heap_lt h.box
  have hbox : w'.heap[xb]? = some (.cells #[vl, .slice none 0 0] 67 (0, 0)) := (h2.block xb hxb (by intro e; have := hlt xb e.symm; omega)).trans h.box
  have hne : ∀ g cur t, t ≠ 67 → w'.heap[g]? = some (.cells cur t (0, 0)) → g ≠ xb := by
    intro g cur t ht hg e
    subst e
    rw [hbox] at hg
    injection hg with hg
    injection hg with _ hg _
    exact ht hg.symm
  have hxb' := heap_lt hbox
  refine ⟨(h.ext.grown h2 (fun k hk => by have := hlt k hk; have := h.lo; omega)).set (p := ⟨xb, 0, none⟩) h.lo _, heap_set hbox, h.lo, hxb', by simp, ?_, OwnB.nil_, fun _ => rfl⟩
  refine h1.keepG (fun _ _ hc => (hc.mono hT').keep (fun g cur hg hh => ?_)) (fun g cur hg hh => ?_)
  · have hn := hne g _ _ (by decide) hh
    rw [heap_ne hn]; exact hh
  · have hn := hne g _ _ (by decide) hh
    rw [heap_ne hn]; exact hh
end

/-- Behind end: the parts with the text's own one; the other blocks are as they were. -/
def EndP (w : World) (xb : Nat) (vl : Value) (fs : List FM.Form) (tx : List Int) (wr : World) (e : Ending) (w' : World) : Prop :=
  e = .returned (.tuple #[]) ∧ (∃ T vl', Scs w xb T vl' (.slice none 0 0) (FM.endT fs tx) [] w') ∧ KeepT [21] wr w' ∧ ∀ g o, wr.heap[g]? = some o → g ≠ xb → vl.ownBlock ≠ some g → w'.heap[g]? = some o
set_option maxRecDepth 100000 in
set_option maxHeartbeats 1000000 in
theorem end_any (w : World) (xb T : Nat) (vl vt : Value) (fs : List FM.Form) (tx : List Int) (wr : World) (h : Scs w xb T vl vt fs tx wr) (hn : fs.length ≤ 1000000000) :
    Calls Tryd.prog 41 #[.pointer (some ⟨xb, 0, none⟩)] wr (EndP w xb vl fs tx wr) := by
  have HC := Lib.hid h
  have c0 := h.c0
  have c1 := h.c1
  have f0 := h.fr 0
  have f1 := h.fr 1
  by_cases he : tx = []
  · subst he
    obtain rfl := h.nil rfl
    clear h
    go_enter Tryd.func41, Tryd.ntmps41
    go_wp2_with fail
    go_end0
    exact ⟨rfl, ⟨T, vl, by rw [FM.endT_nil]; exact HC.out⟩, KeepT.refl _ _, fun _ _ h _ _ => h⟩
  · have HNE := Lib.hid he
    have hlen : (0 : Int) < tx.length := by
      cases tx with
      | nil => exact absurd rfl he
      | cons a l => simp
    obtain ⟨At, ct, rfl, hct, -⟩ := h.txt.form
    obtain ⟨Al, cl, rfl, hcl, -⟩ := h.own.form
    have hxs := heap_lt h.box
    clear h he
    go_enter Tryd.func41, Tryd.ntmps41
    go_wp2_with fail
    have HCD := Lib.hid (HC.out.ext_ (((Ext.refl wr).alloc (.cells #[.int .i64 0, .int .i64 0, .int .i64 0, .slice At tx.length ct, .slice none 0 0] 34)).drew))
    have hB : xb + 1 ≤ wr.heap.size := hxs
    go_region_law ((refine step_one Tryd.underlying32 info_form rfl (by decide) (by decide) (keeps_ft _ _) (by decide) rfl _ _ (by rfl) (xb + 1) _ fs ⟨0, 0, 0, tx, []⟩ [.int .i64 0, .int .i64 0, .int .i64 0, .slice At tx.length ct, .slice none 0 0] 34 HC.out.ownTop HC.out.fts rfl (by simp [Value.oneCell']) (by rfl) wr.heap.size (by rfl) rfl hn hB ?_); intro gg cap w1 h1 h2; have hb := HCD.out.boxF h2; have c0 := cell_of_row w1 xb 0 _ _ _ hb; have c1 := cell_of_row w1 xb 1 _ _ _ hb; have f0 := frozen_of_row w1 xb 0 _ _ hb; have f1 := frozen_of_row w1 xb 1 _ _ hb; have HF := Lib.hid (And.intro h1 h2); clear hb h1 h2)
    all_goals
      go_wp2_with fail
      go_end0
      have hf := Scs.appF HCD.out HF.out.1 (Nat.le_trans (by simp) HF.out.2.size) HF.out.2
      have he : FM.endT fs tx = fs ++ [⟨0, 0, 0, tx, []⟩] := by unfold FM.endT; rw [if_neg HNE.out]
      rw [← he] at hf
      have hfr : ∀ g o, wr.heap[g]? = some o → g ≠ xb → (Value.slice Al fs.length cl).ownBlock ≠ some g → ((w1.setCell ⟨xb, 0, none⟩ (.slice (some ⟨gg, 0, none⟩) (fs.length + 1) cap)).setCell ⟨xb, 1, none⟩ (.slice none 0 0)).heap[g]? = some o := by
        intro g o hg hne hown
        rw [heap_ne hne, heap_ne hne, HF.out.2.block g (Nat.lt_of_lt_of_le (heap_lt hg) (by simp)) (fun e => hown e.symm)]
        exact (((Ext.refl wr).alloc _).drew).heap hg
      refine ⟨rfl, ⟨_, _, hf⟩, fun g cur t ht hg => ?_, hfr⟩
      simp only [List.mem_singleton] at ht
      subst ht
      refine hfr g _ hg (fun e => ?_) (fun e => ?_)
      · subst e
        have := HC.out.box
        rw [hg] at this
        injection this with this
        injection this with _ this _
        exact absurd this (by decide)
      · obtain ⟨cur2, h4⟩ := HC.out.own.type g e
        rw [hg] at h4
        injection h4 with h4
        injection h4 with _ h4 _
        exact absurd h4 (by decide)
end Go.Proofs.YtfblkahjefdmaaaDoor
