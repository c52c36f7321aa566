/- For ResynMadeS: what the texts XPgM XPgN XPgO XPgQ XPgR of wip/tpl say. -/
import Derived.Test.YtpcdknfmgacggaaG
import Derived.Deep.RegionLaw
import Derived.Deep.CutBlock
namespace Go.Proofs.Ytpcdknfmgacggaa
open Go.RowKit
theorem SlR.mono2 {α : Type} {sz : Nat} {R R' : World → Nat → Nat → α → Prop} {w w' : World} {v : Value} {xs : List α} (h : SlR sz R w v xs) (hR : ∀ b o x, R w b o x → R' w' b o x) : SlR sz R' w' v xs := by
  obtain ⟨A, c, hv, hl, hc, hk, hn⟩ := h
  exact ⟨A, c, hv, hl, hc, fun k x hx => let ⟨b, o, hA, hr⟩ := hk k x hx; ⟨b, o, hA, hR _ _ _ hr⟩, hn⟩
/-- A sign in a block of S. -/
def AtS (S : Nat → Prop) (w : World) (b o : Nat) (x : Int) : Prop := S b ∧ w.cell? ⟨b, o, none⟩ = some (.int .i32 x)
abbrev SlCS (S : Nat → Prop) := @SlR Int 1 (AtS S)
/-- An instruction's cells. -/
def InC (S : Nat → Prop) (w : World) (cs : List Value) (i : PG.Inst) : Prop := ∃ vs, cs = [.int .i64 i.op, .int .i64 i.x, .int .i64 i.y, .bool i.neg, vs] ∧ SlCS S w vs i.set
/-- Cells in blocks of S are kept. -/
def KeepS (S S' : Nat → Prop) (w w' : World) : Prop := ∀ (b o : Nat) (u : Value), S b → w.cell? ⟨b, o, none⟩ = some u → S' b ∧ w'.cell? ⟨b, o, none⟩ = some u
theorem Ext.keepS {S : Nat → Prop} {w w' : World} (h : Ext w w') : KeepS S S w w' := fun _ _ _ hs hc => ⟨hs, h.cell hc⟩
theorem SlCS.keep {S S' : Nat → Prop} {w w' : World} {v : Value} {xs : List Int} (h : SlCS S w v xs) (hk : KeepS S S' w w') : SlCS S' w' v xs :=
  SlR.mono2 h fun _ _ _ ⟨h1, h2⟩ => hk _ _ _ h1 h2
theorem InC.keep {S S' : Nat → Prop} {w w' : World} {cs : List Value} {i : PG.Inst} (h : InC S w cs i) (hk : KeepS S S' w w') : InC S' w' cs i := by
  obtain ⟨vs, h1, h2⟩ := h
  exact ⟨vs, h1, h2.keep hk⟩
theorem InC.ext {S : Nat → Prop} {w w' : World} {cs : List Value} {i : PG.Inst} (h : InC S w cs i) (hx : Ext w w') : InC S w' cs i := h.keep hx.keepS
/-- Instructions in blocks of S. -/
def InsS (S : Nat → Prop) (w : World) (v : Value) (l : List PG.Inst) : Prop := SlR 5 (fun w b o i => S b ∧ ∃ cs, InC S w cs i ∧ cs.length = 5 ∧ ∀ (j : Nat) (u : Value), cs[j]? = some u → w.cell? ⟨b, o + j, none⟩ = some u) w v l
theorem InsS.keep {S S' : Nat → Prop} {w w' : World} {v : Value} {l : List PG.Inst} (h : InsS S w v l) (hk : KeepS S S' w w') : InsS S' w' v l :=
  SlR.mono2 h fun b o _ ⟨h0, cs, h1, h3, h2⟩ => by
    have h9 : ∃ u, cs[0]? = some u := by obtain ⟨vs, rfl, _⟩ := h1; exact ⟨_, rfl⟩
    obtain ⟨u, hu⟩ := h9
    exact ⟨(hk _ _ _ h0 (h2 0 u hu)).1, cs, h1.keep hk, h3, fun j u hu => (hk _ _ _ h0 (h2 j u hu)).2⟩
/-- New blocks are in S. -/
def NewIn (S : Nat → Prop) (w : World) : Prop := ∀ b, w.heap.size ≤ b → S b
theorem NewIn.ext {S : Nat → Prop} {w w' : World} (h : NewIn S w) (hx : Ext w w') : NewIn S w' := fun b hb => h b (Nat.le_trans hx.size hb)
/-- Instructions. -/
def SlN (S : Nat → Prop) (w : World) (v : Value) (l : List PG.Inst) : Prop := NewIn S w ∧ InsS S w v l
theorem SlN.ext {S : Nat → Prop} {w w' : World} {v : Value} {l : List PG.Inst} (h : SlN S w v l) (hx : Ext w w') : SlN S w' v l := ⟨h.1.ext hx, h.2.keep hx.keepS⟩
theorem SlN.wk {S S' : Nat → Prop} {w : World} {v : Value} {l : List PG.Inst} (h : SlN S w v l) (hS : ∀ b, S b → S' b) : SlN S' w v l := ⟨fun b hb => hS b (h.1 b hb), h.2.keep fun _ _ _ hs hc => ⟨hS _ hs, hc⟩⟩
/-- What lies in new blocks alone. -/
theorem SlN.new {S : Nat → Prop} {w w' : World} {v : Value} {l : List PG.Inst} (h : SlN (w.heap.size ≤ ·) w' v l) (hS : NewIn S w) : SlN S w' v l := h.wk hS
theorem SlN.form {S : Nat → Prop} {w : World} {v : Value} {l : List PG.Inst} (h : SlN S w v l) : ∃ A c, v = .slice A l.length c ∧ l.length ≤ c ∧ c ≤ 9223372036854775807 := by
  obtain ⟨-, A, c, hv, h1, h2, -⟩ := h
  exact ⟨A, c, hv, h1, h2⟩
theorem SlN.atN {S : Nat → Prop} {w : World} {A : Option Addr} {n c : Nat} {l : List PG.Inst} (h : SlN S w (.slice A n c) l) {k : Nat} (hk : k < l.length) :
    ∃ g o cs, A = some ⟨g, o, none⟩ ∧ InC S w cs l[k] ∧ ∀ (j : Nat) (u : Value), cs[j]? = some u → w.cell? ⟨g, o + k * 5 + j, none⟩ = some u := by
  obtain ⟨b, o, hA, -, cs, h1, -, h2⟩ := SlR.at_ h.2 (List.getElem?_eq_getElem hk)
  exact ⟨b, o, cs, hA, h1, h2⟩
theorem SlN.nil_ {S : Nat → Prop} {w : World} (h : NewIn S w) : SlN S w (.slice none 0 0) [] := ⟨h, SlR.nil_⟩
/-- A part's cells. -/
def PtC (S : Nat → Prop) (w : World) (cs : List Value) (p : PG.Part) : Prop := ∃ A c, cs = [.slice A p.l.length c, .int .i64 (p.n : Int)] ∧ SlN S w (.slice A p.l.length c) p.l
theorem PtC.ext {S : Nat → Prop} {w w' : World} {cs : List Value} {p : PG.Part} (h : PtC S w cs p) (hx : Ext w w') : PtC S w' cs p := by
  obtain ⟨A, c, h1, h2⟩ := h
  exact ⟨A, c, h1, h2.ext hx⟩
/-- Parts. -/
def SlP (S : Nat → Prop) (w : World) (v : Value) (ps : List PG.Part) : Prop := NewIn S w ∧ SlR 2 (fun w b o p => ∃ cs, PtC S w cs p ∧ ∀ (j : Nat) (u : Value), cs[j]? = some u → w.cell? ⟨b, o + j, none⟩ = some u) w v ps
theorem SlP.ext {S : Nat → Prop} {w w' : World} {v : Value} {ps : List PG.Part} (h : SlP S w v ps) (hx : Ext w w') : SlP S w' v ps :=
  ⟨h.1.ext hx, SlR.mono2 h.2 fun _ _ _ ⟨cs, h1, h2⟩ => ⟨cs, h1.ext hx, fun j u hu => hx.cell (h2 j u hu)⟩⟩
theorem SlP.form {S : Nat → Prop} {w : World} {v : Value} {ps : List PG.Part} (h : SlP S w v ps) : ∃ A c, v = .slice A ps.length c ∧ ps.length ≤ c ∧ c ≤ 9223372036854775807 := by
  obtain ⟨-, A, c, hv, h1, h2, -⟩ := h
  exact ⟨A, c, hv, h1, h2⟩
theorem SlP.atP {S : Nat → Prop} {w : World} {A : Option Addr} {n c : Nat} {ps : List PG.Part} (h : SlP S w (.slice A n c) ps) {k : Nat} (hk : k < ps.length) :
    ∃ g o cs, A = some ⟨g, o, none⟩ ∧ PtC S w cs ps[k] ∧ ∀ (j : Nat) (u : Value), cs[j]? = some u → w.cell? ⟨g, o + k * 2 + j, none⟩ = some u := by
  obtain ⟨b, o, hA, cs, h1, h2⟩ := SlR.at_ h.2 (List.getElem?_eq_getElem hk)
  exact ⟨b, o, cs, hA, h1, h2⟩
/-- The call returned a part; what was there is as it was. -/
def PartR (S : Nat → Prop) (p : PG.Part) (w : World) (e : Ending) (w' : World) : Prop := Ext w w' ∧ ∃ A c, e = .returned (.agg #[.slice A p.l.length c, .int .i64 (p.n : Int)]) ∧ SlN S w' (.slice A p.l.length c) p.l
theorem Ext.set9 {w W : World} {o : Nat} {u : Value} (h : Ext w W) : Ext w (W.setCell ⟨w.heap.size, o, none⟩ u) := h.set (p := ⟨w.heap.size, o, none⟩) (Nat.le_refl _) u
theorem Ext.setg {w W : World} {g o : Nat} {u : Value} (hg : w.heap.size ≤ g) (h : Ext w W) : Ext w (W.setCell ⟨g, o, none⟩ u) := h.set (p := ⟨g, o, none⟩) hg u
/-- An instruction that may be moved. -/
def MovOk (i : PG.Inst) : Prop := (i.op = 4 → -1000 ≤ i.x ∧ i.x ≤ 1000 ∧ -1000 ≤ i.y ∧ i.y ≤ 1000) ∧ (i.op = 5 → -1000 ≤ i.x ∧ i.x ≤ 1000)
def InstR (i : PG.Inst) (vs : Value) (w : World) (e : Ending) (w' : World) : Prop := Ext w w' ∧ e = .returned (.agg #[.int .i64 i.op, .int .i64 i.x, .int .i64 i.y, .bool i.neg, vs])
theorem heap_off {w : World} {g h o : Nat} {u : Value} (hne : g ≠ h) : (w.setCell ⟨h, o, none⟩ u).heap[g]? = w.heap[g]? := Below.heap_setCell w ⟨h, o, none⟩ u g hne
theorem cell_heap {w w' : World} {b o : Nat} (h : w'.heap[b]? = w.heap[b]?) : w'.cell? ⟨b, o, none⟩ = w.cell? ⟨b, o, none⟩ := by unfold World.cell?; rw [h]
/-- The blocks that w has not. -/
abbrev Nw (w : World) : Nat → Prop := fun b => w.heap.size ≤ b
theorem newIn_le {w W : World} (h : w.heap.size ≤ W.heap.size) : NewIn (Nw w) W := fun _ hb => Nat.le_trans h hb
/-- Readings of instructions lie in no part's box. -/
theorem SlCS.off {S : Nat → Prop} {w w' : World} {g : Nat} {a : Value} {n : Int} {t : TypeId} {v : Value} {xs : List Int} (h : SlCS S w v xs) (hg : w.heap[g]? = some (.cells #[a, .int .i64 n] t (0, 0))) (ha : ∀ x, a ≠ .int .i32 x) (hw : ∀ i, i ≠ g → w'.heap[i]? = w.heap[i]?) : SlCS S w' v xs := by
  refine SlR.mono2 h fun b o x ⟨hs, hc⟩ => ?_
  have hne : b ≠ g := by
    intro e
    subst e
    rw [cell_of_row w b o _ _ _ hg] at hc
    match o, hc with
    | 0, hc => exact ha x (by simpa using hc)
    | 1, hc => simp at hc
    | n + 2, hc => simp at hc
  exact ⟨hs, (cell_heap (hw b hne)).trans hc⟩
theorem SlN.off {S : Nat → Prop} {w w' : World} {g : Nat} {a : Value} {n : Int} {t : TypeId} {v : Value} {l : List PG.Inst} (h : SlN S w v l) (hg : w.heap[g]? = some (.cells #[a, .int .i64 n] t (0, 0))) (ha : ∀ x, a ≠ .int .i32 x) (hw : ∀ i, i ≠ g → w'.heap[i]? = w.heap[i]?) (hz : w.heap.size ≤ w'.heap.size) : SlN S w' v l := by
  refine ⟨fun b hb => h.1 b (Nat.le_trans hz hb), SlR.mono2 h.2 fun b o x hc => ?_⟩
  obtain ⟨h0, cs, ⟨vs, rfl, hs⟩, h3, hcell⟩ := hc
  have hne : b ≠ g := by
    intro e
    subst e
    have h4 := hcell 4 vs rfl
    rw [cell_of_row w b (o + 4) _ _ _ hg] at h4
    rw [Array.getElem?_eq_none (by simp)] at h4
    cases h4
  exact ⟨h0, _, ⟨vs, rfl, hs.off hg ha hw⟩, h3, fun j u hu => (cell_heap (hw b hne)).trans (hcell j u hu)⟩
theorem run_enter {P : Program} {f : FuncId} {fn : Func} (hf : P.funcs[f]? = some fn) (hname : (fn.name == "runtime.NumGoroutine") = false) (hb : fn.body.isNone = false) (args : Array Value) (w : World) : (callFunc f args).run P w = .ok (.enter f args) w := by
  have h1 : fn.name ≠ "runtime.NumGoroutine" := by simpa using hname
  obtain ⟨c, hc⟩ : ∃ c, fn.body = some c := by
    cases h : fn.body with
    | none => rw [h] at hb; cases hb
    | some c => exact ⟨c, rfl⟩
  simp [callFunc, hf, h1, hc]
theorem step_go {P : Program} {ops : Array Oper} {o : Oper} {a : Act} {w : World} {K : Act → World → Prop} {Q : Exit → Act → World → Prop} {E : Prop} (id : Nat) (hcf : ∀ args w, (callFunc id args).run P w = .ok (.enter id args) w) (hgd : o.guard = none) (args : Array Operand) (ts : Array TypeId)
    (ho : o.op = .call { callee := .value (.func id), args := args, argTypes := ts }) (vs : Array Value) (hvs : args.map a.eval = vs) (C : Ending → World → Prop) (hc : Calls P id vs w C)
    (h : ∀ e w', C e w' → ∃ v, e = .returned v ∧ K (a.put o.dst v) w') : if Region.wanted o (yielded ops a.tmps) = true then Oper.wp P o a w K Q else E := by
  have hw : Region.wanted o (yielded ops a.tmps) = true := by simp [Region.wanted, hgd]
  rw [if_pos hw]
  have hrun : (execOp a.eval o).run P w = .ok (.enter id vs) w := by
    subst hvs
    simp [execOp, ho, resolve, invoke, Act.eval, go_sem, hcf]
  unfold Oper.wp
  rw [hrun, Oper.upon_enter]
  refine hc.mono ?_
  intro e w' hce
  obtain ⟨v, rfl, hk⟩ := h e w' hce
  exact hk
/-- An own row, kept where its block and what its elements ask is kept. -/
theorem OwnB.keepP {α : Type} {t sz B : Nat} {C C' : World → List Value → α → Prop} {w w' : World} {v : Value} {xs : List α} (h : OwnB t sz C B w v xs) (hC : ∀ cs x, C w cs x → C' w' cs x)
    (ht : ∀ g cur, v.ownBlock = some g → w.heap[g]? = some (.cells cur t (0, 0)) → w'.heap[g]? = some (.cells cur t (0, 0))) : OwnB t sz C' B w' v xs := by
  obtain ⟨flat, hown, h2⟩ := h
  refine ⟨flat, ⟨hown.1, ?_⟩, fun k x hx => ?_⟩
  · rcases hown.2 with hn | ⟨g, cap, cur, hv, hb, hg, rest⟩
    · exact .inl hn
    · exact .inr ⟨g, cap, cur, hv, hb, ht g cur (by rw [hv]; rfl) hg, rest⟩
  · obtain ⟨cs, h6, h7⟩ := h2 k x hx
    exact ⟨cs, hC _ _ h6, h7⟩
/-- append(v, x) of one element, as a step of a region that draws its order. -/
theorem step_inst {α : Type} {P : Program} {w : World} {ops : Array Oper} {o : Oper} {a : Act} {K : Act → World → Prop} {Q : Exit → Act → World → Prop} {E : Prop} {t te sz bytes : Nat} {z : Value}
    (ht : P.underlying t = some (.slice te)) (hinf : (P.info? te).map (fun i => (i.zero, i.size, i.bytes)) = some (some z, sz, bytes)) (hzs : z.cells.size = sz) (hsz : 0 < sz) (hby : bytes ≤ 100)
    {T : List TypeId} {C : World → List Value → α → Prop} (hC : Keeps T C) (hT : te ∉ T)
    (hgd : o.guard = none) (s x : Operand) (ho : o.op = .call { callee := .builtin .append, args := #[s, x], argTypes := #[t, t] })
    (B : Nat) (v : Value) (xs : List α) (y : α) (cs : List Value) (tb : TypeId) (hown : OwnB te sz C B w v xs) (hy : C w cs y) (hcs : cs.length = sz) (h1 : ∀ u ∈ cs, u.oneCell' = true)
    (hs : a.eval s = v) (nb : Nat) (hx : a.eval x = .slice (some ⟨nb, 0, none⟩) 1 1) (hnb : nb = w.heap.size) (hn : xs.length ≤ 1000000000) (hB : B ≤ w.heap.size)
    (h : ∀ g cap w', OwnB te sz C B w' (.slice (some ⟨g, 0, none⟩) (xs.length + 1) cap) (xs ++ [y]) → (w.alloc (.cells cs.toArray tb)).grownBy w' v.ownBlock → K (a.put o.dst (.slice (some ⟨g, 0, none⟩) (xs.length + 1) cap)) w') :
    if Region.wanted o (yielded ops a.tmps) = true then Oper.wp P o a (w.alloc (.cells cs.toArray tb)) K Q else E := by
  subst hnb
  obtain ⟨i0, hi, hz0, hz1, hz2⟩ := info_parts hinf
  obtain ⟨flat, hr, h2⟩ := hown
  refine step_append_lies _ hgd s x t ho B te i0 z sz bytes ht hi hz0 hz1 hz2 hzs hsz v xs.length flat hs (World.ownsRow.alloc hr _) ⟨w.heap.size, 0, none⟩ 1 1 cs hx (by omega) (fun j u hu => news_all w cs tb j u hu) h1 (by decide) (by unfold maxLen; omega) (Nat.le_trans (Nat.mul_le_mul (show xs.length + 1 ≤ 1000000001 by omega) hby) (by omega)) (by simp; omega) _ rfl ?_
  intro g cap w' h3 h4 _ _
  refine h g cap w' (OwnB.snoc h2 hr.1 hC ?_ hy hcs h3) h4
  refine (KeepT.of_ext ((Ext.refl w).alloc _)).trans (KeepT.of_grown h4 (fun g hg => ?_))
  obtain ⟨cur, hh⟩ := own_type hr g hg
  exact ⟨cur, te, ((Ext.refl w).alloc _).heap hh, hT⟩
/-- An instruction whose set stood already in w. -/
abbrev Ic (S : Nat → Prop) (w : World) : World → List Value → PG.Inst → Prop := fun _ cs i => InC S w cs i
theorem keeps_ic (S : Nat → Prop) (w : World) (T : List TypeId) : Keeps T (Ic S w) := fun _ _ _ _ _ h => h
section
variable {S : Nat → Prop} {w wr w' : World} {rb xb : Nat} {vl vl' : Value} {n m : Int} {l l' : List PG.Inst}
end
theorem ret_fst {v u x y : Value} (h : Ending.returned (.agg #[v, x]) = .returned (.agg #[u, y])) : v = u := by
  injection h with h
  injection h with h
  simp at h
  exact h.1
/-- Parts that may be put one behind the other. -/
def Rowable (ps : List PG.Part) : Prop := ∀ p ∈ ps, PG.Fine p ∧ ∀ i ∈ p.l, MovOk i
end Go.Proofs.Ytpcdknfmgacggaa
