/- Words on memory for programs of regular texts: instructions, parts; the small makers. -/
import Derived.Test.YtfblkahjefdmaaaGreatWa
import Derived.Test.YtfblkahjefdmaaaGreatPureA
import Derived.Deep.RegionLaw
import Derived.Deep.AppendLies
import Derived.Deep.DeepCutAuto
import Derived.Deep.CutBlock
import Derived.Deep.RegionHeld3
import Derived.IntWalk
namespace Go.Proofs.YtfblkahjefdmaaaGreat
open Go.RowKit

theorem SlR.mono2 {α : Type} {sz : Nat} {R R' : World → Nat → Nat → α → Prop} {w w' : World} {v : Value} {xs : List α} (h : SlR sz R w v xs) (hR : ∀ b o x, R w b o x → R' w' b o x) : SlR sz R' w' v xs := by
  obtain ⟨A, c, hv, hl, hc, hk, hn⟩ := h
  exact ⟨A, c, hv, hl, hc, fun k x hx => let ⟨b, o, hA, hr⟩ := hk k x hx; ⟨b, o, hA, hR _ _ _ hr⟩, hn⟩
/-- A sign in a block of S. -/
def AtS (S : Nat → Prop) (w : World) (b o : Nat) (x : Int) : Prop := S b ∧ w.cell? ⟨b, o, none⟩ = some (.int .i32 x)
abbrev SlCS (S : Nat → Prop) := @SlR Int 1 (AtS S)
/-- An instruction's cells. -/
def InC (S : Nat → Prop) (w : World) (cs : List Value) (i : PG.Inst) : Prop := ∃ vs, cs = [.int .i64 i.op, .int .i64 i.x, .int .i64 i.y, .bool i.neg, vs] ∧ SlCS S w vs i.set
/-- Cells in blocks of S are kept. -/
def KeepS (S S' : Nat → Prop) (w w' : World) : Prop := ∀ (b o : Nat) (u : Value), S b → w.cell? ⟨b, o, none⟩ = some u → S' b ∧ w'.cell? ⟨b, o, none⟩ = some u
theorem Ext.keepS {S : Nat → Prop} {w w' : World} (h : Ext w w') : KeepS S S w w' := fun _ _ _ hs hc => ⟨hs, h.cell hc⟩
theorem SlCS.keep {S S' : Nat → Prop} {w w' : World} {v : Value} {xs : List Int} (h : SlCS S w v xs) (hk : KeepS S S' w w') : SlCS S' w' v xs :=
  SlR.mono2 h fun _ _ _ ⟨h1, h2⟩ => hk _ _ _ h1 h2
theorem InC.keep {S S' : Nat → Prop} {w w' : World} {cs : List Value} {i : PG.Inst} (h : InC S w cs i) (hk : KeepS S S' w w') : InC S' w' cs i := by
  obtain ⟨vs, h1, h2⟩ := h
  exact ⟨vs, h1, h2.keep hk⟩
theorem InC.ext {S : Nat → Prop} {w w' : World} {cs : List Value} {i : PG.Inst} (h : InC S w cs i) (hx : Ext w w') : InC S w' cs i := h.keep hx.keepS
/-- Instructions in blocks of S. -/
def InsS (S : Nat → Prop) (w : World) (v : Value) (l : List PG.Inst) : Prop := SlR 5 (fun w b o i => S b ∧ ∃ cs, InC S w cs i ∧ cs.length = 5 ∧ ∀ (j : Nat) (u : Value), cs[j]? = some u → w.cell? ⟨b, o + j, none⟩ = some u) w v l
theorem InsS.keep {S S' : Nat → Prop} {w w' : World} {v : Value} {l : List PG.Inst} (h : InsS S w v l) (hk : KeepS S S' w w') : InsS S' w' v l :=
  SlR.mono2 h fun b o _ ⟨h0, cs, h1, h3, h2⟩ => by
    have h9 : ∃ u, cs[0]? = some u := by obtain ⟨vs, rfl, _⟩ := h1; exact ⟨_, rfl⟩
    obtain ⟨u, hu⟩ := h9
    exact ⟨(hk _ _ _ h0 (h2 0 u hu)).1, cs, h1.keep hk, h3, fun j u hu => (hk _ _ _ h0 (h2 j u hu)).2⟩
/-- New blocks are in S. -/
def NewIn (S : Nat → Prop) (w : World) : Prop := ∀ b, w.heap.size ≤ b → S b
theorem NewIn.ext {S : Nat → Prop} {w w' : World} (h : NewIn S w) (hx : Ext w w') : NewIn S w' := fun b hb => h b (Nat.le_trans hx.size hb)
/-- Instructions. -/
def SlN (S : Nat → Prop) (w : World) (v : Value) (l : List PG.Inst) : Prop := NewIn S w ∧ InsS S w v l
theorem SlN.ext {S : Nat → Prop} {w w' : World} {v : Value} {l : List PG.Inst} (h : SlN S w v l) (hx : Ext w w') : SlN S w' v l := ⟨h.1.ext hx, h.2.keep hx.keepS⟩
theorem SlN.wk {S S' : Nat → Prop} {w : World} {v : Value} {l : List PG.Inst} (h : SlN S w v l) (hS : ∀ b, S b → S' b) : SlN S' w v l := ⟨fun b hb => hS b (h.1 b hb), h.2.keep fun _ _ _ hs hc => ⟨hS _ hs, hc⟩⟩
/-- What lies in new blocks alone. -/
theorem SlN.new {S : Nat → Prop} {w w' : World} {v : Value} {l : List PG.Inst} (h : SlN (w.heap.size ≤ ·) w' v l) (hS : NewIn S w) : SlN S w' v l := h.wk hS
theorem SlN.form {S : Nat → Prop} {w : World} {v : Value} {l : List PG.Inst} (h : SlN S w v l) : ∃ A c, v = .slice A l.length c ∧ l.length ≤ c ∧ c ≤ 9223372036854775807 := by
  obtain ⟨-, A, c, hv, h1, h2, -⟩ := h
  exact ⟨A, c, hv, h1, h2⟩
theorem SlN.atN {S : Nat → Prop} {w : World} {A : Option Addr} {n c : Nat} {l : List PG.Inst} (h : SlN S w (.slice A n c) l) {k : Nat} (hk : k < l.length) :
    ∃ g o cs, A = some ⟨g, o, none⟩ ∧ InC S w cs l[k] ∧ ∀ (j : Nat) (u : Value), cs[j]? = some u → w.cell? ⟨g, o + k * 5 + j, none⟩ = some u := by
  obtain ⟨b, o, hA, -, cs, h1, -, h2⟩ := SlR.at_ h.2 (List.getElem?_eq_getElem hk)
  exact ⟨b, o, cs, hA, h1, h2⟩
theorem SlN.nil_ {S : Nat → Prop} {w : World} (h : NewIn S w) : SlN S w (.slice none 0 0) [] := ⟨h, SlR.nil_⟩
/-- A part's cells. -/
def PtC (S : Nat → Prop) (w : World) (cs : List Value) (p : PG.Part) : Prop := ∃ A c, cs = [.slice A p.l.length c, .int .i64 (p.n : Int)] ∧ SlN S w (.slice A p.l.length c) p.l
theorem PtC.ext {S : Nat → Prop} {w w' : World} {cs : List Value} {p : PG.Part} (h : PtC S w cs p) (hx : Ext w w') : PtC S w' cs p := by
  obtain ⟨A, c, h1, h2⟩ := h
  exact ⟨A, c, h1, h2.ext hx⟩
/-- Parts. -/
def SlP (S : Nat → Prop) (w : World) (v : Value) (ps : List PG.Part) : Prop := NewIn S w ∧ SlR 2 (fun w b o p => ∃ cs, PtC S w cs p ∧ ∀ (j : Nat) (u : Value), cs[j]? = some u → w.cell? ⟨b, o + j, none⟩ = some u) w v ps
theorem SlP.ext {S : Nat → Prop} {w w' : World} {v : Value} {ps : List PG.Part} (h : SlP S w v ps) (hx : Ext w w') : SlP S w' v ps :=
  ⟨h.1.ext hx, SlR.mono2 h.2 fun _ _ _ ⟨cs, h1, h2⟩ => ⟨cs, h1.ext hx, fun j u hu => hx.cell (h2 j u hu)⟩⟩
theorem SlP.form {S : Nat → Prop} {w : World} {v : Value} {ps : List PG.Part} (h : SlP S w v ps) : ∃ A c, v = .slice A ps.length c ∧ ps.length ≤ c ∧ c ≤ 9223372036854775807 := by
  obtain ⟨-, A, c, hv, h1, h2, -⟩ := h
  exact ⟨A, c, hv, h1, h2⟩
theorem SlP.atP {S : Nat → Prop} {w : World} {A : Option Addr} {n c : Nat} {ps : List PG.Part} (h : SlP S w (.slice A n c) ps) {k : Nat} (hk : k < ps.length) :
    ∃ g o cs, A = some ⟨g, o, none⟩ ∧ PtC S w cs ps[k] ∧ ∀ (j : Nat) (u : Value), cs[j]? = some u → w.cell? ⟨g, o + k * 2 + j, none⟩ = some u := by
  obtain ⟨b, o, hA, cs, h1, h2⟩ := SlR.at_ h.2 (List.getElem?_eq_getElem hk)
  exact ⟨b, o, cs, hA, h1, h2⟩
/-- The call returned a part; what was there is as it was. -/
def PartR (S : Nat → Prop) (p : PG.Part) (w : World) (e : Ending) (w' : World) : Prop := Ext w w' ∧ ∃ A c, e = .returned (.agg #[.slice A p.l.length c, .int .i64 (p.n : Int)]) ∧ SlN S w' (.slice A p.l.length c) p.l
theorem Ext.set9 {w W : World} {o : Nat} {u : Value} (h : Ext w W) : Ext w (W.setCell ⟨w.heap.size, o, none⟩ u) := h.set (p := ⟨w.heap.size, o, none⟩) (Nat.le_refl _) u
theorem Ext.setg {w W : World} {g o : Nat} {u : Value} (hg : w.heap.size ≤ g) (h : Ext w W) : Ext w (W.setCell ⟨g, o, none⟩ u) := h.set (p := ⟨g, o, none⟩) hg u
/-- A literal row of one instruction. -/
theorem inst_lit {S : Nat → Prop} {w : World} {i : PG.Inst} {vs : Value} (hS : NewIn S w) (hs : SlCS S w vs i.set) : SlN S (w.alloc (.cells #[.int .i64 i.op, .int .i64 i.x, .int .i64 i.y, .bool i.neg, vs] 72)) (.slice (some ⟨w.heap.size, 0, none⟩) 1 1) [i] := by
  refine ⟨hS.ext ((Ext.refl w).alloc _), _, 1, rfl, Nat.le_refl _, by omega, fun k x hx => ?_, by intro h; cases h⟩
  match k, hx with
  | 0, hx =>
    simp at hx; subst hx
    refine ⟨w.heap.size, 0, rfl, hS _ (Nat.le_refl _), _, ⟨vs, rfl, hs.keep ((Ext.refl w).alloc _).keepS⟩, rfl, fun j u hu => ?_⟩
    simp only [Nat.zero_mul, Nat.zero_add]
    rw [World.cell?_alloc_new]
    simpa using hu

theorem pone_any {S : Nat → Prop} (l : List PG.Inst) (v : Value) (w : World) (hl : SlN S w v l) : Calls Tryz.prog 31 #[v] w (PartR S (PG.one l) w) := by
  obtain ⟨A, c, rfl, -⟩ := hl.form
  have HL := Lib.hid hl
  clear hl
  go_enter Tryz.func31, Tryz.ntmps31
  go_wp2_with fail
  refine bodyPost_ret (v := .agg #[.slice A l.length c, .int .i64 (l.length : Int)]) (by simp [results, Tryz.results31, go_sem]) rfl ?_
  exact ⟨(Ext.refl w).alloc _, A, c, rfl, HL.out.ext ((Ext.refl w).alloc _)⟩
end Go.Proofs.YtfblkahjefdmaaaGreat

/- Walks: moved, split, jump, save of package reprog. -/
namespace Go.Proofs.YtfblkahjefdmaaaGreat
open Go.RowKit

/-- An instruction that may be moved. -/
def MovOk (i : PG.Inst) : Prop := (i.op = 4 → -1000 ≤ i.x ∧ i.x ≤ 1000 ∧ -1000 ≤ i.y ∧ i.y ≤ 1000) ∧ (i.op = 5 → -1000 ≤ i.x ∧ i.x ≤ 1000)
def InstR (i : PG.Inst) (vs : Value) (w : World) (e : Ending) (w' : World) : Prop := Ext w w' ∧ e = .returned (.agg #[.int .i64 i.op, .int .i64 i.x, .int .i64 i.y, .bool i.neg, vs])
set_option maxHeartbeats 1000000 in
theorem moved_any (i : PG.Inst) (k : Int) (A : Option Addr) (n c : Nat) (w : World) (hm : MovOk i) (hk : 0 ≤ k ∧ k ≤ 1000) :
    Calls Tryz.prog 48 #[.agg #[.int .i64 i.op, .int .i64 i.x, .int .i64 i.y, .bool i.neg, .slice A n c], .int .i64 k] w (InstR (PG.moved k i) (.slice A n c) w) := by
  obtain ⟨op, x, y, neg, set⟩ := i
  obtain ⟨h4, h5⟩ := hm
  obtain ⟨hk0, hk1⟩ := hk
  dsimp only at h4 h5 ⊢
  have hE : ∀ W, Ext w W → Ext w W := fun _ h => h
  by_cases o4 : op = 4
  · subst o4
    obtain ⟨a1, a2, a3, a4⟩ := h4 rfl
    have HM := Lib.hid (show PG.moved k ⟨4, x, y, neg, set⟩ = ⟨4, x + k, y + k, neg, set⟩ from rfl)
    rw [HM.out]
    clear h4 h5
    go_enter Tryz.func48, Tryz.ntmps48
    go_wp2_with fail
    refine bodyPost_ret (v := .agg #[.int .i64 4, .int .i64 (x + k), .int .i64 (y + k), .bool neg, .slice A n c]) (by simp [results, Tryz.results48, go_sem]) rfl ?_
    exact ⟨by (focus (repeat (first | with_reducible exact Ext.refl _ | with_reducible apply Ext.alloc | with_reducible apply Ext.set9 | (with_reducible refine Ext.setg ?_ ?_; (simp; done))))), rfl⟩
  · by_cases o5 : op = 5
    · subst o5
      obtain ⟨a1, a2⟩ := h5 rfl
      have HM := Lib.hid (show PG.moved k ⟨5, x, y, neg, set⟩ = ⟨5, x + k, y, neg, set⟩ from rfl)
      rw [HM.out]
      clear h4 h5
      go_enter Tryz.func48, Tryz.ntmps48
      go_wp2_with fail
      refine bodyPost_ret (v := .agg #[.int .i64 5, .int .i64 (x + k), .int .i64 y, .bool neg, .slice A n c]) (by simp [results, Tryz.results48, go_sem]) rfl ?_
      exact ⟨by (focus (repeat (first | with_reducible exact Ext.refl _ | with_reducible apply Ext.alloc | with_reducible apply Ext.set9 | (with_reducible refine Ext.setg ?_ ?_; (simp; done))))), rfl⟩
    · have HM := Lib.hid (show PG.moved k ⟨op, x, y, neg, set⟩ = ⟨op, x, y, neg, set⟩ by unfold PG.moved; rw [if_neg o4, if_neg o5])
      rw [HM.out]
      clear h4 h5
      go_enter Tryz.func48, Tryz.ntmps48
      go_wp2_with fail
      refine bodyPost_ret (v := .agg #[.int .i64 op, .int .i64 x, .int .i64 y, .bool neg, .slice A n c]) (by simp [results, Tryz.results48, go_sem]) rfl ?_
      exact ⟨by (focus (repeat (first | with_reducible exact Ext.refl _ | with_reducible apply Ext.alloc | with_reducible apply Ext.set9 | (with_reducible refine Ext.setg ?_ ?_; (simp; done))))), rfl⟩
end Go.Proofs.YtfblkahjefdmaaaGreat

/- Walks: split, jump, save of package reprog. -/
namespace Go.Proofs.YtfblkahjefdmaaaGreat
open Go.RowKit

theorem heap_off {w : World} {g h o : Nat} {u : Value} (hne : g ≠ h) : (w.setCell ⟨h, o, none⟩ u).heap[g]? = w.heap[g]? := Below.heap_setCell w ⟨h, o, none⟩ u g hne
theorem cell_heap {w w' : World} {b o : Nat} (h : w'.heap[b]? = w.heap[b]?) : w'.cell? ⟨b, o, none⟩ = w.cell? ⟨b, o, none⟩ := by unfold World.cell?; rw [h]
/-- The blocks that w has not. -/
abbrev Nw (w : World) : Nat → Prop := fun b => w.heap.size ≤ b
theorem newIn_le {w W : World} (h : w.heap.size ≤ W.heap.size) : NewIn (Nw w) W := fun _ hb => Nat.le_trans h hb
/-- Readings of instructions lie in no part's box. -/
theorem SlCS.off {S : Nat → Prop} {w w' : World} {g : Nat} {a : Value} {n : Int} {t : TypeId} {v : Value} {xs : List Int} (h : SlCS S w v xs) (hg : w.heap[g]? = some (.cells #[a, .int .i64 n] t (0, 0))) (ha : ∀ x, a ≠ .int .i32 x) (hw : ∀ i, i ≠ g → w'.heap[i]? = w.heap[i]?) : SlCS S w' v xs := by
  refine SlR.mono2 h fun b o x ⟨hs, hc⟩ => ?_
  have hne : b ≠ g := by
    intro e
    subst e
    rw [cell_of_row w b o _ _ _ hg] at hc
    match o, hc with
    | 0, hc => exact ha x (by simpa using hc)
    | 1, hc => simp at hc
    | n + 2, hc => simp at hc
  exact ⟨hs, (cell_heap (hw b hne)).trans hc⟩
theorem SlN.off {S : Nat → Prop} {w w' : World} {g : Nat} {a : Value} {n : Int} {t : TypeId} {v : Value} {l : List PG.Inst} (h : SlN S w v l) (hg : w.heap[g]? = some (.cells #[a, .int .i64 n] t (0, 0))) (ha : ∀ x, a ≠ .int .i32 x) (hw : ∀ i, i ≠ g → w'.heap[i]? = w.heap[i]?) (hz : w.heap.size ≤ w'.heap.size) : SlN S w' v l := by
  refine ⟨fun b hb => h.1 b (Nat.le_trans hz hb), SlR.mono2 h.2 fun b o x hc => ?_⟩
  obtain ⟨h0, cs, ⟨vs, rfl, hs⟩, h3, hcell⟩ := hc
  have hne : b ≠ g := by
    intro e
    subst e
    have h4 := hcell 4 vs rfl
    rw [cell_of_row w b (o + 4) _ _ _ hg] at h4
    rw [Array.getElem?_eq_none (by simp)] at h4
    cases h4
  exact ⟨h0, _, ⟨vs, rfl, hs.off hg ha hw⟩, h3, fun j u hu => (cell_heap (hw b hne)).trans (hcell j u hu)⟩
theorem inst_lit5 {S : Nat → Prop} {w : World} {vs : Value} {g : Nat} (op x y : Int) (neg : Bool) (set : List Int) (hS : NewIn S w) (hg : g = w.heap.size) (hs : SlCS S w vs set) : SlN S (w.alloc (.cells #[.int .i64 op, .int .i64 x, .int .i64 y, .bool neg, vs] 72)) (.slice (some ⟨g, 0, none⟩) 1 1) [⟨op, x, y, neg, set⟩] := by
  subst hg
  exact inst_lit (i := ⟨op, x, y, neg, set⟩) hS hs
/-- Behind the store of a part into the result's box. -/
theorem part_ret {S : Nat → Prop} {p : PG.Part} {w w2 : World} {A : Option Addr} {c : Nat} {n : Int} (hb : w2.heap[w.heap.size]? = some (.cells #[.slice none 0 0, .int .i64 0] 66 (0, 0))) (hx : Ext w w2) (hl : SlN S w2 (.slice A p.l.length c) p.l) :
    PartR S p w (.returned (.agg #[.slice A p.l.length c, .int .i64 (p.n : Int)])) ((w2.setCell ⟨w.heap.size, 0, none⟩ (.slice A p.l.length c)).setCell ⟨w.heap.size, 1, none⟩ (.int .i64 n)) :=
  ⟨(hx.set9).set9, A, c, rfl, hl.off hb (by intro x h; cases h) (fun i hi => (heap_off hi).trans (heap_off hi)) (by simp)⟩
set_option maxRecDepth 100000 in
set_option maxHeartbeats 1000000 in
theorem psplit_any (far : Int) (w : World) : Calls Tryz.prog 71 #[.int .i64 far, .bool false] w (PartR (Nw w) (PG.split far false) w) := by
  go_enter Tryz.func71, Tryz.ntmps71
  go_wp2_with (go_at_call 31; go_loud (refine (pone_any [⟨4, 1, far, false, []⟩] _ _ (inst_lit5 (4) (1) (far) (false) ([]) (newIn_le (w := w) (by simp; try omega)) (by simp) SlR.nil_)).mono ?_; rintro e w2 ⟨hx, A2, c2, rfl, hl2⟩; have hx0 : Ext (w.alloc (.cells #[.slice none 0 0, .int .i64 0] 66)) w2 := Ext.trans (by (focus (repeat (first | with_reducible exact Ext.refl _ | with_reducible apply Ext.alloc | (with_reducible refine Ext.setg ?_ ?_; (simp; done)))))) hx; have hb := hx0.heap (heap_alloc_new w _); have d0 := cell_of_row w2 w.heap.size 0 _ _ _ hb; have d1 := cell_of_row w2 w.heap.size 1 _ _ _ hb; have f0 := frozen_of_row w2 w.heap.size 0 _ _ hb; have f1 := frozen_of_row w2 w.heap.size 1 _ _ hb; have HX := Lib.hid (((Ext.refl w).alloc _).trans hx0); have HL2 := Lib.hid hl2; have HB := Lib.hid hb; clear hx hx0 hb hl2))
  refine bodyPost_ret (v := .agg #[.slice A2 1 c2, .int .i64 1]) (by simp [results, Tryz.results71, go_sem, d0, d1, PG.one]) rfl ?_
  exact part_ret (p := PG.split far false) HB.out HX.out HL2.out
set_option maxRecDepth 100000 in
set_option maxHeartbeats 1000000 in
theorem psplitz_any (far : Int) (w : World) : Calls Tryz.prog 71 #[.int .i64 far, .bool true] w (PartR (Nw w) (PG.split far true) w) := by
  go_enter Tryz.func71, Tryz.ntmps71
  go_wp2_with (go_at_call 31; go_loud (refine (pone_any [⟨4, far, 1, false, []⟩] _ _ (inst_lit5 (4) (far) (1) (false) ([]) (newIn_le (w := w) (by simp; try omega)) (by simp) SlR.nil_)).mono ?_; rintro e w2 ⟨hx, A2, c2, rfl, hl2⟩; have hx0 : Ext (w.alloc (.cells #[.slice none 0 0, .int .i64 0] 66)) w2 := Ext.trans (by (focus (repeat (first | with_reducible exact Ext.refl _ | with_reducible apply Ext.alloc | (with_reducible refine Ext.setg ?_ ?_; (simp; done)))))) hx; have hb := hx0.heap (heap_alloc_new w _); have d0 := cell_of_row w2 w.heap.size 0 _ _ _ hb; have d1 := cell_of_row w2 w.heap.size 1 _ _ _ hb; have f0 := frozen_of_row w2 w.heap.size 0 _ _ hb; have f1 := frozen_of_row w2 w.heap.size 1 _ _ hb; have HX := Lib.hid (((Ext.refl w).alloc _).trans hx0); have HL2 := Lib.hid hl2; have HB := Lib.hid hb; clear hx hx0 hb hl2))
  refine bodyPost_ret (v := .agg #[.slice A2 1 c2, .int .i64 1]) (by simp [results, Tryz.results71, go_sem, d0, d1, PG.one]) rfl ?_
  exact part_ret (p := PG.split far true) HB.out HX.out HL2.out
set_option maxRecDepth 100000 in
set_option maxHeartbeats 1000000 in
theorem pjump_any (far : Int) (w : World) : Calls Tryz.prog 72 #[.int .i64 far] w (PartR (Nw w) (PG.jump far) w) := by
  go_enter Tryz.func72, Tryz.ntmps72
  go_wp2_with (go_at_call 31; go_loud (refine (pone_any [⟨5, far, 0, false, []⟩] _ _ (inst_lit5 (5) (far) (0) (false) ([]) (newIn_le (w := w) (by simp; try omega)) (by simp) SlR.nil_)).mono ?_; rintro e w2 ⟨hx, A2, c2, rfl, hl2⟩; have hx0 : Ext (w.alloc (.cells #[.slice none 0 0, .int .i64 0] 66)) w2 := Ext.trans (by (focus (repeat (first | with_reducible exact Ext.refl _ | with_reducible apply Ext.alloc | (with_reducible refine Ext.setg ?_ ?_; (simp; done)))))) hx; have hb := hx0.heap (heap_alloc_new w _); have d0 := cell_of_row w2 w.heap.size 0 _ _ _ hb; have d1 := cell_of_row w2 w.heap.size 1 _ _ _ hb; have f0 := frozen_of_row w2 w.heap.size 0 _ _ hb; have f1 := frozen_of_row w2 w.heap.size 1 _ _ hb; have HX := Lib.hid (((Ext.refl w).alloc _).trans hx0); have HL2 := Lib.hid hl2; have HB := Lib.hid hb; clear hx hx0 hb hl2))
  refine bodyPost_ret (v := .agg #[.slice A2 1 c2, .int .i64 1]) (by simp [results, Tryz.results72, go_sem, d0, d1, PG.one]) rfl ?_
  exact part_ret (p := PG.jump far) HB.out HX.out HL2.out
set_option maxRecDepth 100000 in
set_option maxHeartbeats 1000000 in
theorem psave_any (far : Int) (w : World) : Calls Tryz.prog 29 #[.int .i64 far] w (PartR (Nw w) (PG.save far) w) := by
  go_enter Tryz.func29, Tryz.ntmps29
  go_wp2_with (go_at_call 31; go_loud (refine (pone_any [⟨3, far, 0, false, []⟩] _ _ (inst_lit5 (3) (far) (0) (false) ([]) (newIn_le (w := w) (by simp; try omega)) (by simp) SlR.nil_)).mono ?_; rintro e w2 ⟨hx, A2, c2, rfl, hl2⟩; have hx0 : Ext (w.alloc (.cells #[.slice none 0 0, .int .i64 0] 66)) w2 := Ext.trans (by (focus (repeat (first | with_reducible exact Ext.refl _ | with_reducible apply Ext.alloc | (with_reducible refine Ext.setg ?_ ?_; (simp; done)))))) hx; have hb := hx0.heap (heap_alloc_new w _); have d0 := cell_of_row w2 w.heap.size 0 _ _ _ hb; have d1 := cell_of_row w2 w.heap.size 1 _ _ _ hb; have f0 := frozen_of_row w2 w.heap.size 0 _ _ hb; have f1 := frozen_of_row w2 w.heap.size 1 _ _ hb; have HX := Lib.hid (((Ext.refl w).alloc _).trans hx0); have HL2 := Lib.hid hl2; have HB := Lib.hid hb; clear hx hx0 hb hl2))
  refine bodyPost_ret (v := .agg #[.slice A2 1 c2, .int .i64 1]) (by simp [results, Tryz.results29, go_sem, d0, d1, PG.one]) rfl ?_
  exact part_ret (p := PG.save far) HB.out HX.out HL2.out
theorem psplit_all (far : Int) (lz : Bool) (w : World) : Calls Tryz.prog 71 #[.int .i64 far, .bool lz] w (PartR (Nw w) (PG.split far lz) w) := by
  cases lz
  · exact psplit_any far w
  · exact psplitz_any far w
end Go.Proofs.YtfblkahjefdmaaaGreat

/- A call of a Go function as a step of a region that draws its order. -/
namespace Go.Proofs.YtfblkahjefdmaaaGreat
open Go.RowKit

theorem run_enter {P : Program} {f : FuncId} {fn : Func} (hf : P.funcs[f]? = some fn) (hname : (fn.name == "runtime.NumGoroutine") = false) (hb : fn.body.isNone = false) (args : Array Value) (w : World) : (callFunc f args).run P w = .ok (.enter f args) w := by
  have h1 : fn.name ≠ "runtime.NumGoroutine" := by simpa using hname
  obtain ⟨c, hc⟩ : ∃ c, fn.body = some c := by
    cases h : fn.body with
    | none => rw [h] at hb; cases hb
    | some c => exact ⟨c, rfl⟩
  simp [callFunc, hf, h1, hc]
theorem step_go {P : Program} {ops : Array Oper} {o : Oper} {a : Act} {w : World} {K : Act → World → Prop} {Q : Exit → Act → World → Prop} {E : Prop} (id : Nat) (hcf : ∀ args w, (callFunc id args).run P w = .ok (.enter id args) w) (hgd : o.guard = none) (args : Array Operand) (ts : Array TypeId)
    (ho : o.op = .call { callee := .value (.func id), args := args, argTypes := ts }) (vs : Array Value) (hvs : args.map a.eval = vs) (C : Ending → World → Prop) (hc : Calls P id vs w C)
    (h : ∀ e w', C e w' → ∃ v, e = .returned v ∧ K (a.put o.dst v) w') : if Region.wanted o (yielded ops a.tmps) = true then Oper.wp P o a w K Q else E := by
  have hw : Region.wanted o (yielded ops a.tmps) = true := by simp [Region.wanted, hgd]
  rw [if_pos hw]
  have hrun : (execOp a.eval o).run P w = .ok (.enter id vs) w := by
    subst hvs
    simp [execOp, ho, resolve, invoke, Act.eval, go_sem, hcf]
  unfold Oper.wp
  rw [hrun, Oper.upon_enter]
  refine hc.mono ?_
  intro e w' hce
  obtain ⟨v, rfl, hk⟩ := h e w' hce
  exact hk
theorem enter_moved (args : Array Value) (w : World) : (callFunc 48 args).run Tryz.prog w = .ok (.enter 48 args) w := run_enter Tryz.func48 (by kernel_rfl) (by kernel_rfl) args w
theorem enter_split (args : Array Value) (w : World) : (callFunc 71 args).run Tryz.prog w = .ok (.enter 71 args) w := run_enter Tryz.func71 (by kernel_rfl) (by kernel_rfl) args w
theorem enter_jump (args : Array Value) (w : World) : (callFunc 72 args).run Tryz.prog w = .ok (.enter 72 args) w := run_enter Tryz.func72 (by kernel_rfl) (by kernel_rfl) args w
theorem enter_row (args : Array Value) (w : World) : (callFunc 28 args).run Tryz.prog w = .ok (.enter 28 args) w := run_enter Tryz.func28 (by kernel_rfl) (by kernel_rfl) args w
theorem enter_save (args : Array Value) (w : World) : (callFunc 29 args).run Tryz.prog w = .ok (.enter 29 args) w := run_enter Tryz.func29 (by kernel_rfl) (by kernel_rfl) args w
end Go.Proofs.YtfblkahjefdmaaaGreat

/- Walk: row of package reprog. -/
namespace Go.Proofs.YtfblkahjefdmaaaGreat
open Go.RowKit

theorem info_inst : (Tryz.prog.info? 72).map (fun i => (i.zero, i.size, i.bytes)) = some (some (.agg #[.int .i64 0, .int .i64 0, .int .i64 0, .bool false, .slice none 0 0]), 5, 56) := by kernel_rfl
/-- An own row, kept where its block and what its elements ask is kept. -/
theorem OwnB.keepP {α : Type} {t sz B : Nat} {C C' : World → List Value → α → Prop} {w w' : World} {v : Value} {xs : List α} (h : OwnB t sz C B w v xs) (hC : ∀ cs x, C w cs x → C' w' cs x)
    (ht : ∀ g cur, v.ownBlock = some g → w.heap[g]? = some (.cells cur t (0, 0)) → w'.heap[g]? = some (.cells cur t (0, 0))) : OwnB t sz C' B w' v xs := by
  obtain ⟨flat, hown, h2⟩ := h
  refine ⟨flat, ⟨hown.1, ?_⟩, fun k x hx => ?_⟩
  · rcases hown.2 with hn | ⟨g, cap, cur, hv, hb, hg, rest⟩
    · exact .inl hn
    · exact .inr ⟨g, cap, cur, hv, hb, ht g cur (by rw [hv]; rfl) hg, rest⟩
  · obtain ⟨cs, h6, h7⟩ := h2 k x hx
    exact ⟨cs, hC _ _ h6, h7⟩

/-- append(v, x) of one element, as a step of a region that draws its order. -/
theorem step_inst {α : Type} {P : Program} {w : World} {ops : Array Oper} {o : Oper} {a : Act} {K : Act → World → Prop} {Q : Exit → Act → World → Prop} {E : Prop} {t te sz bytes : Nat} {z : Value}
    (ht : P.underlying t = some (.slice te)) (hinf : (P.info? te).map (fun i => (i.zero, i.size, i.bytes)) = some (some z, sz, bytes)) (hzs : z.cells.size = sz) (hsz : 0 < sz) (hby : bytes ≤ 100)
    {T : List TypeId} {C : World → List Value → α → Prop} (hC : Keeps T C) (hT : te ∉ T)
    (hgd : o.guard = none) (s x : Operand) (ho : o.op = .call { callee := .builtin .append, args := #[s, x], argTypes := #[t, t] })
    (B : Nat) (v : Value) (xs : List α) (y : α) (cs : List Value) (tb : TypeId) (hown : OwnB te sz C B w v xs) (hy : C w cs y) (hcs : cs.length = sz) (h1 : ∀ u ∈ cs, u.oneCell' = true)
    (hs : a.eval s = v) (nb : Nat) (hx : a.eval x = .slice (some ⟨nb, 0, none⟩) 1 1) (hnb : nb = w.heap.size) (hn : xs.length ≤ 1000000000) (hB : B ≤ w.heap.size)
    (h : ∀ g cap w', OwnB te sz C B w' (.slice (some ⟨g, 0, none⟩) (xs.length + 1) cap) (xs ++ [y]) → (w.alloc (.cells cs.toArray tb)).grownBy w' v.ownBlock → K (a.put o.dst (.slice (some ⟨g, 0, none⟩) (xs.length + 1) cap)) w') :
    if Region.wanted o (yielded ops a.tmps) = true then Oper.wp P o a (w.alloc (.cells cs.toArray tb)) K Q else E := by
  subst hnb
  obtain ⟨i0, hi, hz0, hz1, hz2⟩ := info_parts hinf
  obtain ⟨flat, hr, h2⟩ := hown
  refine step_append_lies _ hgd s x t ho B te i0 z sz bytes ht hi hz0 hz1 hz2 hzs hsz v xs.length flat hs (World.ownsRow.alloc hr _) ⟨w.heap.size, 0, none⟩ 1 1 cs hx (by omega) (fun j u hu => news_all w cs tb j u hu) h1 (by decide) (by unfold maxLen; omega) (Nat.le_trans (Nat.mul_le_mul (show xs.length + 1 ≤ 1000000001 by omega) hby) (by omega)) (by simp; omega) _ rfl ?_
  intro g cap w' h3 h4 _ _
  refine h g cap w' (OwnB.snoc h2 hr.1 hC ?_ hy hcs h3) h4
  refine (KeepT.of_ext ((Ext.refl w).alloc _)).trans (KeepT.of_grown h4 (fun g hg => ?_))
  obtain ⟨cur, hh⟩ := own_type hr g hg
  exact ⟨cur, te, ((Ext.refl w).alloc _).heap hh, hT⟩

/-- An instruction whose set stood already in w. -/
abbrev Ic (S : Nat → Prop) (w : World) : World → List Value → PG.Inst → Prop := fun _ cs i => InC S w cs i
theorem keeps_ic (S : Nat → Prop) (w : World) (T : List TypeId) : Keeps T (Ic S w) := fun _ _ _ _ _ h => h
/-- Inside of row: the result's box rb, the box xb of what is made. -/
structure Rwz (S : Nat → Prop) (w : World) (rb xb : Nat) (vl : Value) (n : Int) (l : List PG.Inst) (wr : World) : Prop where
  new : NewIn S w
  ext : Ext w wr
  res : wr.heap[rb]? = some (.cells #[.slice none 0 0, .int .i64 0] 66 (0, 0))
  box : wr.heap[xb]? = some (.cells #[vl, .int .i64 n] 66 (0, 0))
  lo : w.heap.size ≤ rb
  lt : rb < xb
  own : OwnB 72 5 (Ic S w) (xb + 1) wr vl l
section
variable {S : Nat → Prop} {w wr w' : World} {rb xb : Nat} {vl vl' : Value} {n m : Int} {l l' : List PG.Inst}
theorem Rwz.ext_ (h : Rwz S w rb xb vl n l wr) (hx : Ext wr w') : Rwz S w rb xb vl n l w' :=
  ⟨h.new, h.ext.trans hx, hx.heap h.res, hx.heap h.box, h.lo, h.lt, h.own.keepP (fun _ _ hc => hc) (fun _ _ _ hg => hx.heap hg)⟩
theorem Rwz.c0 (h : Rwz S w rb xb vl n l wr) : wr.cell? ⟨xb, 0, none⟩ = some vl := cell_of_row wr xb 0 _ _ _ h.box
theorem Rwz.c1 (h : Rwz S w rb xb vl n l wr) : wr.cell? ⟨xb, 1, none⟩ = some (.int .i64 n) := cell_of_row wr xb 1 _ _ _ h.box
theorem Rwz.r0 (h : Rwz S w rb xb vl n l wr) : wr.cell? ⟨rb, 0, none⟩ = some (.slice none 0 0) := cell_of_row wr rb 0 _ _ _ h.res
theorem Rwz.r1 (h : Rwz S w rb xb vl n l wr) : wr.cell? ⟨rb, 1, none⟩ = some (.int .i64 0) := cell_of_row wr rb 1 _ _ _ h.res
theorem Rwz.fr (h : Rwz S w rb xb vl n l wr) (o : Nat) : wr.frozen? ⟨xb, o, none⟩ = false := frozen_of_row wr xb o _ _ h.box
theorem Rwz.frr (h : Rwz S w rb xb vl n l wr) (o : Nat) : wr.frozen? ⟨rb, o, none⟩ = false := frozen_of_row wr rb o _ _ h.res
theorem Rwz.setN (h : Rwz S w rb xb vl n l wr) : Rwz S w rb xb vl m l (wr.setCell ⟨xb, 1, none⟩ (.int .i64 m)) := by
  have hne : rb ≠ xb := by have := h.lt; omega
  refine ⟨h.new, h.ext.set (p := ⟨xb, 1, none⟩) (by have := h.lo; have := h.lt; show w.heap.size ≤ xb; omega) _, (heap_off hne).trans h.res, heap_set h.box, h.lo, h.lt, h.own.keepP (fun _ _ hc => hc) (fun g cur hg hh => ?_)⟩
  have := (h.own.lt g hg).1
  rw [heap_off (by omega : g ≠ xb)]; exact hh
/-- Behind an append, and its store. -/
theorem Rwz.boxA (h : Rwz S w rb xb vl n l wr) (h2 : wr.grownBy w' vl.ownBlock) : w'.heap[xb]? = some (.cells #[vl, .int .i64 n] 66 (0, 0)) :=
  (h2.block xb (heap_lt h.box) (by intro e; have := (h.own.lt xb e.symm).1; omega)).trans h.box
theorem Rwz.app (h : Rwz S w rb xb vl n l wr) (h1 : OwnB 72 5 (Ic S w) (xb + 1) w' vl' l') (h2 : wr.grownBy w' vl.ownBlock) : Rwz S w rb xb vl' n l' (w'.setCell ⟨xb, 0, none⟩ vl') := by
  have hne : rb ≠ xb := by have := h.lt; omega
  have hlt := fun k hk => (h.own.lt k hk).1
  have hr : w'.heap[rb]? = some (.cells #[.slice none 0 0, .int .i64 0] 66 (0, 0)) := (h2.block rb (heap_lt h.res) (by intro e; have := hlt rb e.symm; have := h.lt; omega)).trans h.res
  refine ⟨h.new, (h.ext.grown h2 (fun k hk => by have := hlt k hk; have := h.lo; have := h.lt; omega)).set (p := ⟨xb, 0, none⟩) (by have := h.lo; have := h.lt; show w.heap.size ≤ xb; omega) _, (heap_off hne).trans hr, heap_set (h.boxA h2), h.lo, h.lt, ?_⟩
  refine h1.keepP (fun _ _ hc => hc) (fun g cur hg hh => ?_)
  have := (h1.lt g hg).1
  rw [heap_off (by omega : g ≠ xb)]; exact hh
theorem Rwz.sln (h : Rwz S w rb xb vl n l wr) : SlN S wr vl l := by
  obtain ⟨A, c, hv, hl, hc, hn, ha⟩ := h.own.sl
  subst hv
  refine ⟨h.new.ext h.ext, A, c, rfl, hl, hc, fun k x hx => ?_, hn⟩
  cases A with
  | none =>
    have := hn rfl
    obtain ⟨hk, -⟩ := List.getElem?_eq_some_iff.1 hx
    omega
  | some ad =>
    obtain ⟨g, o, cur, rfl, hb, hg, _, h5⟩ := ha ad rfl
    obtain ⟨cs, h6, h7⟩ := h5 k x hx
    refine ⟨g, o, rfl, h.new g (by have := h.lo; have := h.lt; omega), cs, InC.ext h6 h.ext, ?_, fun j u hu => (cell_of_row wr g _ cur _ (0, 0) hg).trans (h7 j u hu)⟩
    obtain ⟨vs, rfl, _⟩ := h6
    rfl
/-- The result's row is new, and may be written. -/
theorem Rwz.newR (h : Rwz S w rb xb vl n l wr) {ad : Addr} {m c : Nat} (hv : vl = .slice (some ad) m c) : w.heap.size ≤ ad.block ∧ ad.block ≠ rb ∧ ∃ cur, wr.heap[ad.block]? = some (.cells cur 72 (0, 0)) := by
  subst hv
  obtain ⟨A, c', hv, hl, hc, hn, ha⟩ := h.own.sl
  injection hv with h1 _ _
  obtain ⟨g, o, cur, rfl, hb, hg, _⟩ := ha ad h1.symm
  have := h.lo
  have := h.lt
  exact ⟨by show w.heap.size ≤ g; omega, by show g ≠ rb; omega, cur, hg⟩
/-- The result, stored in its box. -/
theorem Rwz.retR (h : Rwz S w rb xb vl n l wr) {p : PG.Part} {A : Option Addr} {c : Nat} (hl : SlN S wr (.slice A p.l.length c) p.l) : PartR S p w (.returned (.agg #[.slice A p.l.length c, .int .i64 (p.n : Int)])) ((wr.setCell ⟨rb, 0, none⟩ (.slice A p.l.length c)).setCell ⟨rb, 1, none⟩ (.int .i64 (p.n : Int))) :=
  ⟨(h.ext.set (p := ⟨rb, 0, none⟩) h.lo _).set (p := ⟨rb, 1, none⟩) h.lo _, A, c, rfl, hl.off h.res (by intro x h; cases h) (fun i hi => (heap_off hi).trans (heap_off hi)) (by simp)⟩
end
theorem ret_fst {v u x y : Value} (h : Ending.returned (.agg #[v, x]) = .returned (.agg #[u, y])) : v = u := by
  injection h with h
  injection h with h
  simp at h
  exact h.1
/-- As PartR; the row is new, and may be written. -/
def RowR (S : Nat → Prop) (p : PG.Part) (w : World) (e : Ending) (w' : World) : Prop := PartR S p w e w' ∧ ∀ (ad : Addr) (m c : Nat) (x : Value), e = .returned (.agg #[.slice (some ad) m c, x]) → w.heap.size ≤ ad.block ∧ ∃ cur, w'.heap[ad.block]? = some (.cells cur 72 (0, 0))
/-- Parts that may be put one behind the other. -/
def Rowable (ps : List PG.Part) : Prop := ∀ p ∈ ps, PG.Fine p ∧ ∀ i ∈ p.l, MovOk i
set_option maxRecDepth 100000 in
set_option maxHeartbeats 4000000 in
theorem prow_all {S : Nat → Prop} (ps : List PG.Part) (v : Value) (w : World) (hs : SlP S w v ps) (hp : Rowable ps) : Calls Tryz.prog 28 #[v] w (RowR S (PG.row ps) w) := by
  obtain ⟨A, c, rfl, hlc, hcc⟩ := hs.form
  have HNW := Lib.hid hs.1
  have HS := Lib.hid hs
  have HP := Lib.hid hp
  obtain ⟨R, hR⟩ : ∃ R, PG.row ps = R := ⟨_, rfl⟩
  have HR := Lib.hid hR
  rw [hR]
  clear hs hp hR
  go_enter Tryz.func28, Tryz.ntmps28
  go_upto_region 3 with fail
  obtain ⟨rb, hrb⟩ : ∃ rb, rb = w.heap.size := ⟨_, rfl⟩
  obtain ⟨xb, hxb⟩ : ∃ xb, xb = w.heap.size + 1 := ⟨_, rfl⟩
  have HRB := Lib.hid hrb
  have HXB := Lib.hid hxb
  rw [← hxb, ← hrb]
  clear hxb hrb
  go_loopw [11] (fun x wr => ∃ (k : Nat) (vl : Value) (n : Nat) (l : List PG.Inst), k ≤ ps.length ∧ x = .int .i64 (k : Int) ∧ Rwz S w rb xb vl n l wr ∧ n < 301 ∧ l.length = n ∧ PG.rowL ⟨l, n⟩ (ps.drop k) = R) (fun x _ => ps.length - (intOf x).toNat)
  case atStart =>
    refine ⟨0, .slice none 0 0, 0, [], Nat.zero_le _, rfl, ⟨HNW.out, ?_, ?_, ?_, ?_, ?_, OwnB.nil_⟩, by decide, rfl, HR.out⟩
    · exact ((Ext.refl w).alloc _).alloc _
    · rw [HRB.out]; exact ((Ext.refl _).alloc _).heap (heap_alloc_new w _)
    · rw [HXB.out]; (have hh := heap_alloc_new (w.alloc (.cells #[.slice none 0 0, .int .i64 0] 66)) (.cells #[.slice none 0 0, .int .i64 0] 66)); rw [show (w.alloc (.cells #[.slice none 0 0, .int .i64 0] 66)).heap.size = w.heap.size + 1 by simp] at hh; exact hh
    · rw [HRB.out]; exact Nat.le_refl _
    · rw [HRB.out, HXB.out]; omega
  case round =>
    obtain ⟨k, vl, n, l, hk, rfl, hcs, hn3, hln, hT⟩ := hrel
    have HC := Lib.hid hcs
    have HT := Lib.hid hT
    have c0 := hcs.c0
    have c1 := hcs.c1
    have r0 := hcs.r0
    have r1 := hcs.r1
    have f0 := hcs.fr 0
    have f1 := hcs.fr 1
    have q0 := hcs.frr 0
    have q1 := hcs.frr 1
    have hxs := heap_lt hcs.box
    have hrs := heap_lt hcs.res
    have hrx : rb ≠ xb := Nat.ne_of_lt hcs.lt
    have hxr : xb ≠ rb := (Nat.ne_of_lt hcs.lt).symm
    have hwr := hcs.lo
    have hwx : w.heap.size ≤ xb := Nat.le_trans hcs.lo (Nat.le_of_lt hcs.lt)
    have hll : l.length ≤ 300 := by omega
    have HLN := Lib.hid hln
    clear hln
    obtain ⟨Al, cl, rfl, hcl, -⟩ := hcs.own.form
    clear hcs hT
    by_cases hlt : k < ps.length
    rotate_left
    · have HN := Lib.hid (show R = ⟨l, n⟩ by rw [← HT.out, List.drop_eq_nil_of_le (by omega), PG.rowL])
      go_wp2_with fail
      rw [HN.out]
      refine bodyPost_ret (v := .agg #[.slice Al l.length cl, .int .i64 (n : Int)]) (by simp [results, Tryz.results28, go_sem, r0, r1]) rfl ?_
      refine ⟨HC.out.retR (p := ⟨l, n⟩) HC.out.sln, fun ad m c' x he => ?_⟩
      have hv := ret_fst he
      obtain ⟨h1, h2, cur, h3⟩ := HC.out.newR hv
      exact ⟨h1, cur, ((heap_off h2).trans (heap_off h2)).trans h3⟩
    have HT2 := Lib.hid (show PG.rowL ⟨l, n⟩ (ps[k] :: ps.drop (k + 1)) = R by rw [← HT.out, List.drop_eq_getElem_cons hlt])
    have HPK := Lib.hid (HP.out ps[k] (List.getElem_mem hlt))
    obtain ⟨g, o, cs, rfl, ⟨Ap, cp, rfl, hlp⟩, hcell⟩ := HS.out.atP hlt
    have HLP := Lib.hid hlp
    have d0 : wr.cell? ⟨g, o + k * 2, none⟩ = _ := HC.out.ext.cell (hcell 0 _ rfl)
    have d1 : wr.cell? ⟨g, o + k * 2 + 1, none⟩ = _ := HC.out.ext.cell (hcell 1 _ rfl)
    generalize ps[k] = p at HT2 HPK HLP d0 d1
    have hplen : p.l.length ≤ p.n := by rcases HPK.out.1 with ⟨h1, h2⟩ | ⟨h1, h2⟩; omega; rw [h2]; simp
    have hpn : p.n ≤ 301 := by rcases HPK.out.1 with ⟨h1, h2⟩ | ⟨h1, h2⟩ <;> omega
    clear hlp hcell
    by_cases hto : 301 ≤ n + p.n
    · have HN := Lib.hid (show R = ⟨[], 301⟩ by rw [← HT2.out, PG.rowL, if_pos hto])
      have hto1 : (301 : Int) ≤ (n : Int) + p.n := by omega
      have hto2 : ¬ ((n : Int) + p.n < 301) := by omega
      rcases Int.lt_or_eq_of_le hto1 with h3 | h3
      · have h4 : ¬ ((n : Int) + p.n ≤ 301) := by omega
        clear hto hto1
        go_wp2_with fail
        rw [HN.out]
        refine bodyPost_ret (v := .agg #[.slice none 0 0, .int .i64 301]) (by simp [results, Tryz.results28, go_sem, r0, r1, hrs]) rfl ?_
        refine ⟨⟨((((HC.out.ext.set (p := ⟨xb, 1, none⟩) hwx _).set (p := ⟨rb, 0, none⟩) hwr _).set (p := ⟨rb, 1, none⟩) hwr _).alloc _), none, 0, rfl, SlN.nil_ (HC.out.new.ext ((((HC.out.ext.set (p := ⟨xb, 1, none⟩) hwx _).set (p := ⟨rb, 0, none⟩) hwr _).set (p := ⟨rb, 1, none⟩) hwr _).alloc _))⟩, fun ad m c' x he => ?_⟩
        have hv := ret_fst he
        cases hv
      · have h4 : (n : Int) + p.n = 301 := h3.symm
        clear hto hto1 hto2 h3
        go_wp2_with fail
        rw [HN.out]
        refine bodyPost_ret (v := .agg #[.slice none 0 0, .int .i64 301]) (by simp [results, Tryz.results28, go_sem, r0, r1, hrs]) rfl ?_
        refine ⟨⟨((((HC.out.ext.set (p := ⟨xb, 1, none⟩) hwx _).set (p := ⟨rb, 0, none⟩) hwr _).set (p := ⟨rb, 1, none⟩) hwr _).alloc _), none, 0, rfl, SlN.nil_ (HC.out.new.ext ((((HC.out.ext.set (p := ⟨xb, 1, none⟩) hwx _).set (p := ⟨rb, 0, none⟩) hwr _).set (p := ⟨rb, 1, none⟩) hwr _).alloc _))⟩, fun ad m c' x he => ?_⟩
        have hv := ret_fst he
        cases hv
    have HT3 := Lib.hid (show PG.rowL ⟨l ++ p.l.map (PG.moved l.length), n + p.n⟩ (ps.drop (k + 1)) = R by rw [← HT2.out, PG.rowL, if_neg hto])
    have hto1 : (n : Int) + p.n < 301 := by omega
    have HPE := Lib.hid (show p.l.length = p.n by rcases HPK.out.1 with ⟨h1, h2⟩ | ⟨h1, h2⟩ <;> omega)
    have HTO := Lib.hid hto
    clear hto
    have hb3 : ((n : Int) + p.n == 301) = false := by simp; omega
    go_upto_region 10 with fail
    have HC1 := Lib.hid ((HC.out.setN (m := (n : Int) + p.n)).ext_ ((Ext.refl _).alloc (.cells #[.slice Ap p.l.length cp, .int .i64 (p.n : Int)] 66)))
    clear c0 c1 r0 r1 f0 f1 q0 q1 d0 d1 HC hto1
    generalize (wr.setCell ⟨xb, 1, none⟩ (.int .i64 ((n : Int) + p.n))).alloc (.cells #[.slice Ap p.l.length cp, .int .i64 (p.n : Int)] 66) = w1 at HC1 ⊢
    go_loopw [32] (fun x wx => ∃ (j : Nat) (vl : Value), j ≤ p.l.length ∧ x = .int .i64 (j : Int) ∧ Rwz S w rb xb vl ((n : Int) + p.n) (l ++ (p.l.take j).map (PG.moved l.length)) wx) (fun x _ => p.l.length - (intOf x).toNat)
    case atStart => exact ⟨0, _, Nat.zero_le _, rfl, by simpa using HC1.out⟩
    case round =>
      obtain ⟨j, vl, hj, rfl, hcs⟩ := hrel
      obtain ⟨l2, hl2⟩ : ∃ l2, l ++ (p.l.take j).map (PG.moved l.length) = l2 := ⟨_, rfl⟩
      have hl2n : l2.length ≤ 601 := by rw [← hl2, List.length_append, List.length_map, List.length_take]; omega
      have HL2 := Lib.hid hl2
      rw [hl2] at hcs
      have HC := Lib.hid hcs
      have c0 := hcs.c0
      have c1 := hcs.c1
      have r0 := hcs.r0
      have r1 := hcs.r1
      have f0 := hcs.fr 0
      have f1 := hcs.fr 1
      have hxs := heap_lt hcs.box
      have hrs := heap_lt hcs.res
      obtain ⟨Al2, cl2, rfl, hcl2, -⟩ := hcs.own.form
      clear hcs hl2
      by_cases hjt : j < p.l.length
      rotate_left
      · have HN := Lib.hid (show l2 = l ++ p.l.map (PG.moved l.length) by rw [← HL2.out, List.take_of_length_le (by omega)])
        go_wp2_with fail
        go_roundw
        case rel => exact ⟨k + 1, _, n + p.n, l2, by omega, by go_num, by push_cast; exact HC.out, (by have := HTO.out; omega), by rw [HN.out, List.length_append, List.length_map, HPE.out, HLN.out], by rw [HN.out]; exact HT3.out⟩
        case measure => simp [intOf]; omega
      obtain ⟨g2, o2, cs2, rfl, ⟨vs, rfl, hvs⟩, hcell⟩ := HLP.out.atN hjt
      have e0 : wr.cell? ⟨g2, o2 + j * 5, none⟩ = _ := HC.out.ext.cell (hcell 0 _ rfl)
      have e1 : wr.cell? ⟨g2, o2 + j * 5 + 1, none⟩ = _ := HC.out.ext.cell (hcell 1 _ rfl)
      have e2 : wr.cell? ⟨g2, o2 + j * 5 + 2, none⟩ = _ := HC.out.ext.cell (hcell 2 _ rfl)
      have e3 : wr.cell? ⟨g2, o2 + j * 5 + 3, none⟩ = _ := HC.out.ext.cell (hcell 3 _ rfl)
      have e4 : wr.cell? ⟨g2, o2 + j * 5 + 4, none⟩ = _ := HC.out.ext.cell (hcell 4 _ rfl)
      have HMV := Lib.hid (HPK.out.2 _ (List.getElem_mem hjt))
      have HNX := Lib.hid (show l2 ++ [PG.moved l.length p.l[j]] = l ++ (p.l.take (j + 1)).map (PG.moved l.length) by rw [← HL2.out, List.take_succ_eq_append_getElem hjt, List.map_append, List.append_assoc]; rfl)
      obtain ⟨As, cs, rfl, hcs3, -⟩ := id hvs
      have HVS := Lib.hid hvs
      clear hcell hvs
      generalize p.l[j] = i at *
      have HMO := Lib.hid (fun W => moved_any i l.length As i.set.length cs W HMV.out (by omega))
      have HIC := Lib.hid (show InC S w [.int .i64 (PG.moved l.length i).op, .int .i64 (PG.moved l.length i).x, .int .i64 (PG.moved l.length i).y, .bool (PG.moved l.length i).neg, .slice As i.set.length cs] (PG.moved l.length i) from ⟨_, rfl, by rw [PG.moved_set]; exact HVS.out⟩)
      generalize PG.moved l.length i = i2 at HMO HIC HNX
      go_upto_region 12 with fail
      have HC3 := Lib.hid (HC.out.ext_ ((Ext.refl _).alloc (.cells #[.int .i64 i.op, .int .i64 i.x, .int .i64 i.y, .bool i.neg, .slice As i.set.length cs] 72)))
      have hn0 := heap_alloc_new wr (.cells #[.int .i64 i.op, .int .i64 i.x, .int .i64 i.y, .bool i.neg, .slice As i.set.length cs] 72)
      clear c0 c1 r0 r1 f0 f1 e0 e1 e2 e3 e4 HC hxs hrs
      generalize wr.alloc (.cells #[.int .i64 i.op, .int .i64 i.x, .int .i64 i.y, .bool i.neg, .slice As i.set.length cs] 72) = w3 at HC3 hn0 ⊢
      generalize wr.heap.size = nb at hn0 ⊢
      have c0 := HC3.out.c0
      have f0 := HC3.out.fr 0
      have e0 := cell_of_row w3 nb 0 _ _ _ hn0
      have e1 := cell_of_row w3 nb 1 _ _ _ hn0
      have e2 := cell_of_row w3 nb 2 _ _ _ hn0
      have e3 := cell_of_row w3 nb 3 _ _ _ hn0
      have e4 := cell_of_row w3 nb 4 _ _ _ hn0
      clear hn0
      have hl2m : l2.length ≤ 1000000000 := by omega
      go_region_law (first | (refine step_go 48 enter_moved rfl _ _ rfl #[.agg #[.int .i64 i.op, .int .i64 i.x, .int .i64 i.y, .bool i.neg, .slice As i.set.length cs], .int .i64 l.length] ?hvs _ (HMO.out _) ?_; (case hvs => (simp [go_sem])); rintro e w4 ⟨hx, rfl⟩; refine ⟨_, rfl, ?_⟩; (have HC4 := Lib.hid (HC3.out.ext_ (((Ext.refl _).drew).trans hx)); have c0 := HC4.out.c0; have f0 := HC4.out.fr 0; have hxs4 : xb < w4.heap.size := heap_lt HC4.out.box; have hB4 : xb + 1 ≤ w4.heap.size := hxs4; clear hx)) | (go_loud (refine step_inst Tryz.underlying45 info_inst rfl (by decide) (by decide) (keeps_ic S w []) (by simp) rfl _ _ (by rfl) (xb + 1) _ l2 i2 [.int .i64 i2.op, .int .i64 i2.x, .int .i64 i2.y, .bool i2.neg, .slice As i.set.length cs] 72 HC4.out.own HIC.out rfl (by simp [Value.oneCell']) (by rfl) w4.heap.size (by rfl) rfl hl2m hB4 ?_; intro gg cap w5 h1 h2; have HC5 := Lib.hid (HC4.out.ext_ ((Ext.refl w4).alloc (.cells #[.int .i64 i2.op, .int .i64 i2.x, .int .i64 i2.y, .bool i2.neg, .slice As i.set.length cs] 72))); have hb := HC5.out.boxA h2; have c0 := cell_of_row w5 xb 0 _ _ _ hb; have f0 := frozen_of_row w5 xb 0 _ _ hb; have HF := Lib.hid (HC5.out.app h1 h2); clear hb h1 h2)))
      all_goals
        go_wp2_with fail
        go_roundw
        case rel => exact ⟨j + 1, _, by omega, by go_num, by rw [← HNX.out]; exact HF.out⟩
        case measure => simp [intOf]; omega
theorem prow_any {S : Nat → Prop} (ps : List PG.Part) (v : Value) (w : World) (hs : SlP S w v ps) (hp : Rowable ps) : Calls Tryz.prog 28 #[v] w (PartR S (PG.row ps) w) := (prow_all ps v w hs hp).mono fun _ _ h => h.1
end Go.Proofs.YtfblkahjefdmaaaGreat

/- Literal rows of parts; walk: loop of package reprog. -/
namespace Go.Proofs.YtfblkahjefdmaaaGreat
open Go.RowKit

/-- A part's own cells. -/
abbrev PtV (A : Option Addr) (c : Nat) (p : PG.Part) : List Value := [.slice A p.l.length c, .int .i64 (p.n : Int)]
theorem ptC {S : Nat → Prop} {w : World} {A : Option Addr} {c : Nat} {p : PG.Part} (h : SlN S w (.slice A p.l.length c) p.l) : PtC S w (PtV A c p) p := ⟨A, c, rfl, h⟩
/-- A literal row of parts. -/
theorem parts_lit {S : Nat → Prop} {w : World} {cells : Array Value} {ps : List PG.Part} {t : TypeId} {g n : Nat} (hg : g = w.heap.size) (hn : n = ps.length) (hm : n ≤ 1000) (hS : NewIn S w)
    (h : ∀ k p, ps[k]? = some p → ∃ A c, SlN S w (.slice A p.l.length c) p.l ∧ cells[k * 2]? = some (.slice A p.l.length c) ∧ cells[k * 2 + 1]? = some (.int .i64 (p.n : Int))) :
    SlP S (w.alloc (.cells cells t)) (.slice (some ⟨g, 0, none⟩) n n) ps := by
  subst hg hn
  refine ⟨hS.ext ((Ext.refl w).alloc _), _, ps.length, rfl, Nat.le_refl _, by omega, fun k p hp => ?_, by intro h; cases h⟩
  obtain ⟨A, c, h1, h2, h3⟩ := h k p hp
  refine ⟨w.heap.size, 0, rfl, _, (ptC h1).ext ((Ext.refl w).alloc _), fun j u hu => ?_⟩
  rw [Nat.zero_add, World.cell?_alloc_new]
  match j, hu with
  | 0, hu => simp [PtV] at hu; subst hu; exact h2
  | 1, hu => simp [PtV] at hu; subst hu; exact h3
  | j + 2, hu => simp [PtV] at hu
theorem parts2 {S : Nat → Prop} {w : World} {t : TypeId} {g : Nat} {p q : PG.Part} {A B : Option Addr} {a b : Nat} (hg : g = w.heap.size) (hp : SlN S w (.slice A p.l.length a) p.l) (hq : SlN S w (.slice B q.l.length b) q.l) :
    SlP S (w.alloc (.cells #[.slice A p.l.length a, .int .i64 (p.n : Int), .slice B q.l.length b, .int .i64 (q.n : Int)] t)) (.slice (some ⟨g, 0, none⟩) 2 2) [p, q] := by
  refine parts_lit hg rfl (by decide) hp.1 fun k x hx => ?_
  match k, hx with
  | 0, hx => simp at hx; subst hx; exact ⟨_, _, hp, rfl, rfl⟩
  | 1, hx => simp at hx; subst hx; exact ⟨_, _, hq, rfl, rfl⟩
theorem parts3 {S : Nat → Prop} {w : World} {t : TypeId} {g : Nat} {p q r : PG.Part} {A B C : Option Addr} {a b c : Nat} (hg : g = w.heap.size) (hp : SlN S w (.slice A p.l.length a) p.l) (hq : SlN S w (.slice B q.l.length b) q.l) (hr : SlN S w (.slice C r.l.length c) r.l) :
    SlP S (w.alloc (.cells #[.slice A p.l.length a, .int .i64 (p.n : Int), .slice B q.l.length b, .int .i64 (q.n : Int), .slice C r.l.length c, .int .i64 (r.n : Int)] t)) (.slice (some ⟨g, 0, none⟩) 3 3) [p, q, r] := by
  refine parts_lit hg rfl (by decide) hp.1 fun k x hx => ?_
  match k, hx with
  | 0, hx => simp at hx; subst hx; exact ⟨_, _, hp, rfl, rfl⟩
  | 1, hx => simp at hx; subst hx; exact ⟨_, _, hq, rfl, rfl⟩
  | 2, hx => simp at hx; subst hx; exact ⟨_, _, hr, rfl, rfl⟩
theorem parts4 {S : Nat → Prop} {w : World} {t : TypeId} {g : Nat} {p q r s : PG.Part} {A B C D : Option Addr} {a b c d : Nat} (hg : g = w.heap.size) (hp : SlN S w (.slice A p.l.length a) p.l) (hq : SlN S w (.slice B q.l.length b) q.l) (hr : SlN S w (.slice C r.l.length c) r.l) (hs : SlN S w (.slice D s.l.length d) s.l) :
    SlP S (w.alloc (.cells #[.slice A p.l.length a, .int .i64 (p.n : Int), .slice B q.l.length b, .int .i64 (q.n : Int), .slice C r.l.length c, .int .i64 (r.n : Int), .slice D s.l.length d, .int .i64 (s.n : Int)] t)) (.slice (some ⟨g, 0, none⟩) 4 4) [p, q, r, s] := by
  refine parts_lit hg rfl (by decide) hp.1 fun k x hx => ?_
  match k, hx with
  | 0, hx => simp at hx; subst hx; exact ⟨_, _, hp, rfl, rfl⟩
  | 1, hx => simp at hx; subst hx; exact ⟨_, _, hq, rfl, rfl⟩
  | 2, hx => simp at hx; subst hx; exact ⟨_, _, hr, rfl, rfl⟩
  | 3, hx => simp at hx; subst hx; exact ⟨_, _, hs, rfl, rfl⟩
/-- A part that may be put into a row. -/
def Rok (p : PG.Part) : Prop := PG.Fine p ∧ ∀ i ∈ p.l, MovOk i
theorem rowable2 {p q : PG.Part} (h1 : Rok p) (h2 : Rok q) : Rowable [p, q] := by
  intro x hx
  simp at hx
  rcases hx with rfl | rfl
  · exact h1
  · exact h2
theorem rowable3 {p q r : PG.Part} (h1 : Rok p) (h2 : Rok q) (h3 : Rok r) : Rowable [p, q, r] := by
  intro x hx
  simp at hx
  rcases hx with rfl | rfl | rfl
  · exact h1
  · exact h2
  · exact h3
theorem rowable4 {p q r s : PG.Part} (h1 : Rok p) (h2 : Rok q) (h3 : Rok r) (h4 : Rok s) : Rowable [p, q, r, s] := by
  intro x hx
  simp at hx
  rcases hx with rfl | rfl | rfl | rfl
  · exact h1
  · exact h2
  · exact h3
  · exact h4
theorem rok_split {far : Int} (lz : Bool) (h : -1000 ≤ far ∧ far ≤ 1000) : Rok (PG.split far lz) := by
  refine ⟨PG.split_fine _ _, fun i hi => ?_⟩
  cases lz
  all_goals
    simp [PG.split, PG.one] at hi
    subst hi
    exact ⟨fun _ => by simp; omega, fun h => by simp at h⟩
theorem rok_jump {far : Int} (h : -1000 ≤ far ∧ far ≤ 1000) : Rok (PG.jump far) := by
  refine ⟨PG.jump_fine _, fun i hi => ?_⟩
  simp [PG.jump, PG.one] at hi
  subst hi
  exact ⟨fun h => by simp at h, fun _ => by simpa using h⟩
theorem rok_save {far : Int} : Rok (PG.save far) := by
  refine ⟨PG.save_fine _, fun i hi => ?_⟩
  simp [PG.save, PG.one] at hi
  subst hi
  exact ⟨fun h => by simp at h, fun h => by simp at h⟩
theorem rok_nil : Rok ⟨[], 0⟩ := ⟨.inl ⟨by decide, rfl⟩, fun i hi => by simp at hi⟩
theorem Rok.of_ok {g : Nat} {p : PG.Part} (h : PG.Ok g p) : Rok p := by
  have hn : p.n ≤ 301 := by rcases h.1 with ⟨h1, h2⟩ | ⟨h1, h2⟩ <;> omega
  refine ⟨h.1, fun i hi => ?_⟩
  obtain ⟨k, hk, rfl⟩ := List.getElem_of_mem hi
  have := h.2 k _ (List.getElem?_eq_getElem hk)
  refine ⟨fun ho => ?_, fun ho => ?_⟩
  · have := this.1 ho; omega
  · have := this.2.1 ho; omega
theorem Rok.le {p : PG.Part} (h : Rok p) : p.n ≤ 301 := by rcases h.1 with ⟨h1, h2⟩ | ⟨h1, h2⟩ <;> omega
/-- The result, stored in its box. -/
theorem part_retB {S : Nat → Prop} {p : PG.Part} {w wr : World} {rb : Nat} {A : Option Addr} {c : Nat} (hx : Ext w wr) (hlo : w.heap.size ≤ rb) (hb : wr.heap[rb]? = some (.cells #[.slice none 0 0, .int .i64 0] 66 (0, 0))) (hl : SlN S wr (.slice A p.l.length c) p.l) :
    PartR S p w (.returned (.agg #[.slice A p.l.length c, .int .i64 (p.n : Int)])) ((wr.setCell ⟨rb, 0, none⟩ (.slice A p.l.length c)).setCell ⟨rb, 1, none⟩ (.int .i64 (p.n : Int))) :=
  ⟨(hx.set (p := ⟨rb, 0, none⟩) hlo _).set (p := ⟨rb, 1, none⟩) hlo _, A, c, rfl, hl.off hb (by intro x h; cases h) (fun i hi => (heap_off hi).trans (heap_off hi)) (by simp)⟩
/-- What a call on parts finds: the part's box, the result's box. -/
structure Pbx (w : World) (pb rb : Nat) (v : Value) (n : Int) (wr : World) : Prop where
  ext : Ext w wr
  lo : w.heap.size ≤ rb
  box : wr.heap[pb]? = some (.cells #[v, .int .i64 n] 66 (0, 0))
  res : wr.heap[rb]? = some (.cells #[.slice none 0 0, .int .i64 0] 66 (0, 0))
section
variable {w wr w' : World} {pb rb : Nat} {v : Value} {n : Int}
theorem Pbx.ext_ (h : Pbx w pb rb v n wr) (hx : Ext wr w') : Pbx w pb rb v n w' := ⟨h.ext.trans hx, h.lo, hx.heap h.box, hx.heap h.res⟩
theorem Pbx.c0 (h : Pbx w pb rb v n wr) : wr.cell? ⟨pb, 0, none⟩ = some v := cell_of_row wr pb 0 _ _ _ h.box
theorem Pbx.c1 (h : Pbx w pb rb v n wr) : wr.cell? ⟨pb, 1, none⟩ = some (.int .i64 n) := cell_of_row wr pb 1 _ _ _ h.box
theorem Pbx.r0 (h : Pbx w pb rb v n wr) : wr.cell? ⟨rb, 0, none⟩ = some (.slice none 0 0) := cell_of_row wr rb 0 _ _ _ h.res
theorem Pbx.r1 (h : Pbx w pb rb v n wr) : wr.cell? ⟨rb, 1, none⟩ = some (.int .i64 0) := cell_of_row wr rb 1 _ _ _ h.res
theorem Pbx.fr (h : Pbx w pb rb v n wr) (o : Nat) : wr.frozen? ⟨rb, o, none⟩ = false := frozen_of_row wr rb o _ _ h.res
end
theorem heap_alloc_2 (w : World) (a b : Obj) : ((w.alloc a).alloc b).heap[w.heap.size + 1]? = some b := by
  have h := heap_alloc_new (w.alloc a) b
  rwa [show (w.alloc a).heap.size = w.heap.size + 1 by simp] at h
theorem heap_alloc_1 (w : World) (a b : Obj) : ((w.alloc a).alloc b).heap[w.heap.size]? = some a := by
  exact ((Ext.refl _).alloc b).heap (heap_alloc_new w a)
set_option maxRecDepth 100000 in
set_option maxHeartbeats 4000000 in
theorem ploop_any {S : Nat → Prop} (p : PG.Part) (lz : Bool) (A : Option Addr) (c : Nat) (w : World) (hs : SlN S w (.slice A p.l.length c) p.l) (hp : Rok p) :
    Calls Tryz.prog 52 #[.agg #[.slice A p.l.length c, .int .i64 (p.n : Int)], .bool lz] w (PartR S (PG.loop p lz) w) := by
  have HS := Lib.hid hs
  have HP := Lib.hid hp
  have hpn := hp.le
  have HSP := Lib.hid (psplit_all ((p.n : Int) + 2) lz)
  have HJ := Lib.hid (pjump_any (-(p.n : Int) - 1))
  have HRW := Lib.hid (rowable3 (rok_split (far := (p.n : Int) + 2) lz (by omega)) hp (rok_jump (far := -(p.n : Int) - 1) (by omega)))
  have HL0 := Lib.hid (show PG.loop p lz = PG.row [PG.split ((p.n : Int) + 2) lz, p, PG.jump (-(p.n : Int) - 1)] from rfl)
  obtain ⟨R, hR⟩ : ∃ R, PG.loop p lz = R := ⟨_, rfl⟩
  rw [hR] at HL0 ⊢
  obtain ⟨p1, hp1⟩ : ∃ q, PG.split ((p.n : Int) + 2) lz = q := ⟨_, rfl⟩
  obtain ⟨p2, hp2⟩ : ∃ q, PG.jump (-(p.n : Int) - 1) = q := ⟨_, rfl⟩
  rw [hp1] at HSP HRW HL0
  rw [hp2] at HJ HRW HL0
  have HROW := Lib.hid (fun v w (h : SlP S w v [p1, p, p2]) => prow_any [p1, p, p2] v w h HRW.out)
  rw [← HL0.out] at HROW
  clear hs hp hR hp1 hp2
  go_enter Tryz.func52, Tryz.ntmps52
  go_upto_region 1 with fail
  have HC := Lib.hid (show Pbx w w.heap.size (w.heap.size + 1) (.slice A p.l.length c) (p.n : Int) _ from ⟨((Ext.refl w).alloc (.cells #[.slice A p.l.length c, .int .i64 (p.n : Int)] 66)).alloc (.cells #[.slice none 0 0, .int .i64 0] 66), Nat.le_succ _, heap_alloc_1 _ _ _, heap_alloc_2 _ _ _⟩)
  generalize (w.alloc (.cells #[.slice A p.l.length c, .int .i64 (p.n : Int)] 66)).alloc (.cells #[.slice none 0 0, .int .i64 0] 66) = w1 at HC ⊢
  generalize hrb : w.heap.size + 1 = rb at HC ⊢
  generalize hpb : w.heap.size = pb at HC hrb ⊢
  have hpr : pb ≠ rb := by omega
  have hrp : rb ≠ pb := by omega
  clear hpb hrb
  have c0 := HC.out.c0
  have c1 := HC.out.c1
  have s1 : IntKind.i64.wrap ((p.n : Int) + 2) = (p.n : Int) + 2 := IntWalk.i64_in _ (by omega)
  have s2 : IntKind.i64.wrap (-(p.n : Int)) = -(p.n : Int) := IntWalk.i64_in _ (by omega)
  have s3 : IntKind.i64.wrap (-(p.n : Int) - 1) = -(p.n : Int) - 1 := IntWalk.i64_in _ (by omega)
  go_region_held3 (fun w' => w'.cell? ⟨pb, 0, none⟩ = some (.slice A p.l.length c) ∧ w'.cell? ⟨pb, 1, none⟩ = some (.int .i64 (p.n : Int)))
    (first | go_keep | (go_split_ands; refine ⟨?_, ?_⟩ <;> (refine Ext.cell (by assumption) ?_; assumption)))
    (first
      | (go_at_call 71; go_loud (refine (HSP.out _).mono ?_); go_loud (rintro e w2 ⟨hx2, A2, c2, rfl, hl2⟩; have HL2 := Lib.hid (hl2.new (HS.out.1.ext (HC.out.ext.trans ((Ext.refl _).drew)))); have HC2 := Lib.hid (HC.out.ext_ (((Ext.refl _).drew).trans hx2)); clear hl2))
      | (go_at_call 72; go_loud (refine (HJ.out _).mono ?_); go_loud (rintro e w3 ⟨hx3, A3, c3, rfl, hl3⟩; have HL3 := Lib.hid (hl3.new (HS.out.1.ext HC2.out.ext)); have HL23 := Lib.hid (HL2.out.ext hx3); have HC3 := Lib.hid (HC2.out.ext_ hx3); have HS3 := Lib.hid (HS.out.ext HC3.out.ext); clear hl3))
      | (go_at_call 28; go_loud (refine (HROW.out _ _ (parts3 (by simp) HL23.out HS3.out HL3.out)).mono ?_); go_loud (rintro e w4 ⟨hx4, A4, c4, rfl, hl4⟩; have HL4 := Lib.hid hl4; have HC4 := Lib.hid (HC3.out.ext_ (((Ext.refl _).alloc _).trans hx4)); have r0 := HC4.out.r0; have r1 := HC4.out.r1; have f0 := HC4.out.fr 0; have f1 := HC4.out.fr 1; clear hl4)))
  go_wp2_with fail
  refine bodyPost_ret (v := .agg #[.slice A4 R.l.length c4, .int .i64 (R.n : Int)]) (by simp [results, Tryz.results52, go_sem, r0, r1]) rfl ?_
  exact part_retB HC4.out.ext HC4.out.lo HC4.out.res HL4.out
end Go.Proofs.YtfblkahjefdmaaaGreat
