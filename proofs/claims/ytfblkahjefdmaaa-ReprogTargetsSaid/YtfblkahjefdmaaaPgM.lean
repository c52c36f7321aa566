/- Words on memory for programs of regular texts: instructions, parts; the small makers. -/
import Derived.Test.YtfblkahjefdmaaaApp
import Derived.Test.YtfblkahjefdmaaaPgP
import Derived.Deep.RegionLaw
import Derived.Deep.AppendLies
import Derived.Deep.DeepCutAuto
import Derived.Deep.CutBlock
namespace Go.Proofs.Ytfblkahjefdmaaa
open Go.RowKit

theorem SlR.mono2 {α : Type} {sz : Nat} {R R' : World → Nat → Nat → α → Prop} {w w' : World} {v : Value} {xs : List α} (h : SlR sz R w v xs) (hR : ∀ b o x, R w b o x → R' w' b o x) : SlR sz R' w' v xs := by
  obtain ⟨A, c, hv, hl, hc, hk, hn⟩ := h
  exact ⟨A, c, hv, hl, hc, fun k x hx => let ⟨b, o, hA, hr⟩ := hk k x hx; ⟨b, o, hA, hR _ _ _ hr⟩, hn⟩
/-- A sign in a block of S. -/
def AtS (S : Nat → Prop) (w : World) (b o : Nat) (x : Int) : Prop := S b ∧ w.cell? ⟨b, o, none⟩ = some (.int .i32 x)
abbrev SlCS (S : Nat → Prop) := @SlR Int 1 (AtS S)
/-- An instruction's cells. -/
def InC (S : Nat → Prop) (w : World) (cs : List Value) (i : PG.Inst) : Prop := ∃ vs, cs = [.int .i64 i.op, .int .i64 i.x, .int .i64 i.y, .bool i.neg, vs] ∧ SlCS S w vs i.set
/-- Cells in blocks of S are kept. -/
def KeepS (S S' : Nat → Prop) (w w' : World) : Prop := ∀ (b o : Nat) (u : Value), S b → w.cell? ⟨b, o, none⟩ = some u → S' b ∧ w'.cell? ⟨b, o, none⟩ = some u
theorem Ext.keepS {S : Nat → Prop} {w w' : World} (h : Ext w w') : KeepS S S w w' := fun _ _ _ hs hc => ⟨hs, h.cell hc⟩
theorem SlCS.keep {S S' : Nat → Prop} {w w' : World} {v : Value} {xs : List Int} (h : SlCS S w v xs) (hk : KeepS S S' w w') : SlCS S' w' v xs :=
  SlR.mono2 h fun _ _ _ ⟨h1, h2⟩ => hk _ _ _ h1 h2
theorem InC.keep {S S' : Nat → Prop} {w w' : World} {cs : List Value} {i : PG.Inst} (h : InC S w cs i) (hk : KeepS S S' w w') : InC S' w' cs i := by
  obtain ⟨vs, h1, h2⟩ := h
  exact ⟨vs, h1, h2.keep hk⟩
theorem InC.ext {S : Nat → Prop} {w w' : World} {cs : List Value} {i : PG.Inst} (h : InC S w cs i) (hx : Ext w w') : InC S w' cs i := h.keep hx.keepS
/-- Instructions in blocks of S. -/
def InsS (S : Nat → Prop) (w : World) (v : Value) (l : List PG.Inst) : Prop := SlR 5 (fun w b o i => S b ∧ ∃ cs, InC S w cs i ∧ cs.length = 5 ∧ ∀ (j : Nat) (u : Value), cs[j]? = some u → w.cell? ⟨b, o + j, none⟩ = some u) w v l
theorem InsS.keep {S S' : Nat → Prop} {w w' : World} {v : Value} {l : List PG.Inst} (h : InsS S w v l) (hk : KeepS S S' w w') : InsS S' w' v l :=
  SlR.mono2 h fun b o _ ⟨h0, cs, h1, h3, h2⟩ => by
    have h9 : ∃ u, cs[0]? = some u := by obtain ⟨vs, rfl, _⟩ := h1; exact ⟨_, rfl⟩
    obtain ⟨u, hu⟩ := h9
    exact ⟨(hk _ _ _ h0 (h2 0 u hu)).1, cs, h1.keep hk, h3, fun j u hu => (hk _ _ _ h0 (h2 j u hu)).2⟩
/-- New blocks are in S. -/
def NewIn (S : Nat → Prop) (w : World) : Prop := ∀ b, w.heap.size ≤ b → S b
theorem NewIn.ext {S : Nat → Prop} {w w' : World} (h : NewIn S w) (hx : Ext w w') : NewIn S w' := fun b hb => h b (Nat.le_trans hx.size hb)
/-- Instructions. -/
def SlN (S : Nat → Prop) (w : World) (v : Value) (l : List PG.Inst) : Prop := NewIn S w ∧ InsS S w v l
theorem SlN.ext {S : Nat → Prop} {w w' : World} {v : Value} {l : List PG.Inst} (h : SlN S w v l) (hx : Ext w w') : SlN S w' v l := ⟨h.1.ext hx, h.2.keep hx.keepS⟩
theorem SlN.wk {S S' : Nat → Prop} {w : World} {v : Value} {l : List PG.Inst} (h : SlN S w v l) (hS : ∀ b, S b → S' b) : SlN S' w v l := ⟨fun b hb => hS b (h.1 b hb), h.2.keep fun _ _ _ hs hc => ⟨hS _ hs, hc⟩⟩
/-- What lies in new blocks alone. -/
theorem SlN.new {S : Nat → Prop} {w w' : World} {v : Value} {l : List PG.Inst} (h : SlN (w.heap.size ≤ ·) w' v l) (hS : NewIn S w) : SlN S w' v l := h.wk hS
theorem SlN.form {S : Nat → Prop} {w : World} {v : Value} {l : List PG.Inst} (h : SlN S w v l) : ∃ A c, v = .slice A l.length c ∧ l.length ≤ c ∧ c ≤ 9223372036854775807 := by
  obtain ⟨-, A, c, hv, h1, h2, -⟩ := h
  exact ⟨A, c, hv, h1, h2⟩
theorem SlN.atN {S : Nat → Prop} {w : World} {A : Option Addr} {n c : Nat} {l : List PG.Inst} (h : SlN S w (.slice A n c) l) {k : Nat} (hk : k < l.length) :
    ∃ g o cs, A = some ⟨g, o, none⟩ ∧ InC S w cs l[k] ∧ ∀ (j : Nat) (u : Value), cs[j]? = some u → w.cell? ⟨g, o + k * 5 + j, none⟩ = some u := by
  obtain ⟨b, o, hA, -, cs, h1, -, h2⟩ := SlR.at_ h.2 (List.getElem?_eq_getElem hk)
  exact ⟨b, o, cs, hA, h1, h2⟩
theorem SlN.nil_ {S : Nat → Prop} {w : World} (h : NewIn S w) : SlN S w (.slice none 0 0) [] := ⟨h, SlR.nil_⟩
/-- A part's cells. -/
def PtC (S : Nat → Prop) (w : World) (cs : List Value) (p : PG.Part) : Prop := ∃ A c, cs = [.slice A p.l.length c, .int .i64 (p.n : Int)] ∧ SlN S w (.slice A p.l.length c) p.l
theorem PtC.ext {S : Nat → Prop} {w w' : World} {cs : List Value} {p : PG.Part} (h : PtC S w cs p) (hx : Ext w w') : PtC S w' cs p := by
  obtain ⟨A, c, h1, h2⟩ := h
  exact ⟨A, c, h1, h2.ext hx⟩
/-- Parts. -/
def SlP (S : Nat → Prop) (w : World) (v : Value) (ps : List PG.Part) : Prop := NewIn S w ∧ SlR 2 (fun w b o p => ∃ cs, PtC S w cs p ∧ ∀ (j : Nat) (u : Value), cs[j]? = some u → w.cell? ⟨b, o + j, none⟩ = some u) w v ps
theorem SlP.ext {S : Nat → Prop} {w w' : World} {v : Value} {ps : List PG.Part} (h : SlP S w v ps) (hx : Ext w w') : SlP S w' v ps :=
  ⟨h.1.ext hx, SlR.mono2 h.2 fun _ _ _ ⟨cs, h1, h2⟩ => ⟨cs, h1.ext hx, fun j u hu => hx.cell (h2 j u hu)⟩⟩
theorem SlP.form {S : Nat → Prop} {w : World} {v : Value} {ps : List PG.Part} (h : SlP S w v ps) : ∃ A c, v = .slice A ps.length c ∧ ps.length ≤ c ∧ c ≤ 9223372036854775807 := by
  obtain ⟨-, A, c, hv, h1, h2, -⟩ := h
  exact ⟨A, c, hv, h1, h2⟩
theorem SlP.atP {S : Nat → Prop} {w : World} {A : Option Addr} {n c : Nat} {ps : List PG.Part} (h : SlP S w (.slice A n c) ps) {k : Nat} (hk : k < ps.length) :
    ∃ g o cs, A = some ⟨g, o, none⟩ ∧ PtC S w cs ps[k] ∧ ∀ (j : Nat) (u : Value), cs[j]? = some u → w.cell? ⟨g, o + k * 2 + j, none⟩ = some u := by
  obtain ⟨b, o, hA, cs, h1, h2⟩ := SlR.at_ h.2 (List.getElem?_eq_getElem hk)
  exact ⟨b, o, cs, hA, h1, h2⟩
/-- The call returned a part; what was there is as it was. -/
def PartR (S : Nat → Prop) (p : PG.Part) (w : World) (e : Ending) (w' : World) : Prop := Ext w w' ∧ ∃ A c, e = .returned (.agg #[.slice A p.l.length c, .int .i64 (p.n : Int)]) ∧ SlN S w' (.slice A p.l.length c) p.l
theorem Ext.set9 {w W : World} {o : Nat} {u : Value} (h : Ext w W) : Ext w (W.setCell ⟨w.heap.size, o, none⟩ u) := h.set (p := ⟨w.heap.size, o, none⟩) (Nat.le_refl _) u
theorem Ext.setg {w W : World} {g o : Nat} {u : Value} (hg : w.heap.size ≤ g) (h : Ext w W) : Ext w (W.setCell ⟨g, o, none⟩ u) := h.set (p := ⟨g, o, none⟩) hg u
/-- A literal row of one instruction. -/
theorem inst_lit {S : Nat → Prop} {w : World} {i : PG.Inst} {vs : Value} (hS : NewIn S w) (hs : SlCS S w vs i.set) : SlN S (w.alloc (.cells #[.int .i64 i.op, .int .i64 i.x, .int .i64 i.y, .bool i.neg, vs] 53)) (.slice (some ⟨w.heap.size, 0, none⟩) 1 1) [i] := by
  refine ⟨hS.ext ((Ext.refl w).alloc _), _, 1, rfl, Nat.le_refl _, by omega, fun k x hx => ?_, by intro h; cases h⟩
  match k, hx with
  | 0, hx =>
    simp at hx; subst hx
    refine ⟨w.heap.size, 0, rfl, hS _ (Nat.le_refl _), _, ⟨vs, rfl, hs.keep ((Ext.refl w).alloc _).keepS⟩, rfl, fun j u hu => ?_⟩
    simp only [Nat.zero_mul, Nat.zero_add]
    rw [World.cell?_alloc_new]
    simpa using hu

theorem pone_any {S : Nat → Prop} (l : List PG.Inst) (v : Value) (w : World) (hl : SlN S w v l) : Calls Try.prog 69 #[v] w (PartR S (PG.one l) w) := by
  obtain ⟨A, c, rfl, -⟩ := hl.form
  have HL := Lib.hid hl
  clear hl
  go_enter Try.func69, Try.ntmps69
  go_wp2_with fail
  refine bodyPost_ret (v := .agg #[.slice A l.length c, .int .i64 (l.length : Int)]) (by simp [results, Try.results69, go_sem]) rfl ?_
  exact ⟨(Ext.refl w).alloc _, A, c, rfl, HL.out.ext ((Ext.refl w).alloc _)⟩
end Go.Proofs.Ytfblkahjefdmaaa
