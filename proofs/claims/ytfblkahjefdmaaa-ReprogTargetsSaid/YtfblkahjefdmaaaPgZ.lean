/- Words on memory for tree of package reprog. -/
import Derived.Test.YtfblkahjefdmaaaPgV
import Derived.Test.YtfblkahjefdmaaaPgW
namespace Go.Proofs.Ytfblkahjefdmaaa
open Go.RowKit

/-- append(v, x) of one element, the new value spelled out. -/
theorem app_tell {α : Type} {P : Program} {w : World} {ops : Array Oper} {rest : List Oper} {o : Oper} {a : Act} {Q : Exit → Act → World → Prop} {t te sz bytes : Nat} {z : Value}
    (ht : P.underlying t = some (.slice te)) (hinf : (P.info? te).map (fun i => (i.zero, i.size, i.bytes)) = some (some z, sz, bytes)) (hzs : z.cells.size = sz) (hsz : 0 < sz) (hby : bytes ≤ 100)
    {T : List TypeId} {C : World → List Value → α → Prop} (hC : Keeps T C) (hT : te ∉ T)
    (hgd : o.guard = none) (s x : Operand) (ho : o.op = .call { callee := .builtin .append, args := #[s, x], argTypes := #[t, t] })
    (B : Nat) (v : Value) (xs : List α) (y : α) (cs : List Value) (tb : TypeId) (hown : OwnB te sz C B w v xs) (hy : C w cs y) (hcs : cs.length = sz) (h1 : ∀ u ∈ cs, u.oneCell' = true)
    (hs : a.eval s = v) (nb : Nat) (hx : a.eval x = .slice (some ⟨nb, 0, none⟩) 1 1) (hnb : nb = w.heap.size) (hn : xs.length ≤ 1000000000) (hB : B ≤ w.heap.size)
    (h : ∀ g cap w', OwnB te sz C B w' (.slice (some ⟨g, 0, none⟩) (xs.length + 1) cap) (xs ++ [y]) → (w.alloc (.cells cs.toArray tb)).grownBy w' v.ownBlock → (v.ownBlock = some g ∨ g = w.heap.size + 1) → wpList P ops Q rest (a.put o.dst (.slice (some ⟨g, 0, none⟩) (xs.length + 1) cap)) w') :
    wpList P ops Q (o :: rest) a (w.alloc (.cells cs.toArray tb)) := by
  subst hnb
  obtain ⟨i0, hi, hz0, hz1, hz2⟩ := info_parts hinf
  obtain ⟨flat, hr, h2⟩ := hown
  refine wpList_append_lies _ hgd s x t ho B te i0 z sz bytes ht hi hz0 hz1 hz2 hzs hsz v xs.length flat hs (World.ownsRow.alloc hr _) ⟨w.heap.size, 0, none⟩ 1 1 cs hx (by omega) (fun j u hu => news_all w cs tb j u hu) h1 (by decide) (by unfold maxLen; omega) (Nat.le_trans (Nat.mul_le_mul (show xs.length + 1 ≤ 1000000001 by omega) hby) (by omega)) (by simp; omega) (w.heap.size + 1) (by simp) ?_
  intro g cap w' h3 h4 h5 _
  refine h g cap w' (OwnB.snoc h2 hr.1 hC ?_ hy hcs h3) h4 h5
  refine (KeepT.of_ext ((Ext.refl w).alloc _)).trans (KeepT.of_grown h4 (fun g hg => ?_))
  obtain ⟨cur, hh⟩ := own_type hr g hg
  exact ⟨cur, te, ((Ext.refl w).alloc _).heap hh, hT⟩

/-- The blocks that w has not, but for a row's own one. -/
abbrev Nx (w : World) (v : Value) : Nat → Prop := fun b => w.heap.size ≤ b ∧ v.ownBlock ≠ some b
theorem PtC.keep {S S' : Nat → Prop} {w w' : World} {cs : List Value} {p : PG.Part} (h : PtC S w cs p) (hk : KeepS S S' w w') (hn : NewIn S' w') : PtC S' w' cs p := by
  obtain ⟨A, c, h1, h2⟩ := h
  exact ⟨A, c, h1, hn, h2.2.keep hk⟩
/-- Inside of tree: the result's box, the top's box, the row of parts. -/
structure Tre (w : World) (rb tb : Nat) (tc : Array Value) (vl : Value) (ps : List PG.Part) (wr : World) : Prop where
  ext : Ext w wr
  lo : w.heap.size ≤ rb
  lt : rb < tb
  res : wr.heap[rb]? = some (.cells #[.slice none 0 0, .int .i64 0] 103 (0, 0))
  top : wr.heap[tb]? = some (.cells tc 40 (0, 0))
  own : OwnB 103 2 (Pc (Nx w vl) wr) (tb + 1) wr vl ps
section
variable {w wr w' : World} {rb tb : Nat} {tc : Array Value} {vl : Value} {ps : List PG.Part}
theorem Tre.ext_ (h : Tre w rb tb tc vl ps wr) (hx : Ext wr w') : Tre w rb tb tc vl ps w' :=
  ⟨h.ext.trans hx, h.lo, h.lt, hx.heap h.res, hx.heap h.top, h.own.keepP (fun _ _ hc => hc.ext hx) (fun _ _ _ hg => hx.heap hg)⟩
theorem Tre.newIn (h : Tre w rb tb tc vl ps wr) : NewIn (Nx w vl) wr := fun b hb => ⟨Nat.le_trans h.ext.size hb, fun e => by have := (h.own.lt b e).2; omega⟩
theorem Tre.cell (h : Tre w rb tb tc vl ps wr) {j : Nat} {u : Value} (hu : tc[j]? = some u) : wr.cell? ⟨tb, j, none⟩ = some u := (cell_of_row wr tb j _ _ _ h.top).trans hu
theorem Tre.r0 (h : Tre w rb tb tc vl ps wr) : wr.cell? ⟨rb, 0, none⟩ = some (.slice none 0 0) := cell_of_row wr rb 0 _ _ _ h.res
theorem Tre.r1 (h : Tre w rb tb tc vl ps wr) : wr.cell? ⟨rb, 1, none⟩ = some (.int .i64 0) := cell_of_row wr rb 1 _ _ _ h.res
theorem Tre.fr (h : Tre w rb tb tc vl ps wr) (o : Nat) : wr.frozen? ⟨rb, o, none⟩ = false := frozen_of_row wr rb o _ _ h.res
theorem Tre.slp (h : Tre w rb tb tc vl ps wr) : SlP (Nx w vl) wr vl ps := h.own.slp (Ext.refl _) h.newIn
/-- What a call tells of its part, beside the row. -/
theorem Tre.part (h : Tre w rb tb tc vl ps wr) {v : Value} {l : List PG.Inst} (hl : SlN (Nw wr) w' v l) : SlN (Nx w vl) w' v l := hl.new h.newIn
/-- Behind an append. -/
theorem Tre.app {cs : List Value} {t : TypeId} {ps' : List PG.Part} {g n c : Nat} (h : Tre w rb tb tc vl ps wr) (h1 : OwnB 103 2 (Pc (Nx w vl) wr) (tb + 1) w' (.slice (some ⟨g, 0, none⟩) n c) ps') (h2 : (wr.alloc (.cells cs.toArray t)).grownBy w' vl.ownBlock) (h3 : vl.ownBlock = some g ∨ g = wr.heap.size + 1) :
    Tre w rb tb tc (.slice (some ⟨g, 0, none⟩) n c) ps' w' := by
  have hlt := fun k hk => h.own.lt k hk
  have hlo := h.lo
  have hrt := h.lt
  have hx := ((h.ext.alloc (.cells cs.toArray t)).grown h2 (fun k hk => by have := (hlt k hk).1; omega))
  have hg' : g < w'.heap.size := (h1.lt g rfl).2
  have hn : NewIn (Nx w (.slice (some ⟨g, 0, none⟩) n c)) w' := fun b hb => ⟨Nat.le_trans hx.size hb, fun e => by injection e with e; have e : g = b := e; omega⟩
  have hold : ∀ b, b < wr.heap.size → vl.ownBlock ≠ some b → w'.heap[b]? = wr.heap[b]? := fun b hb ho =>
    (h2.block b (Nat.lt_of_lt_of_le hb (by simp)) (fun e => ho e.symm)).trans (by
      have hb' : wr.heap[b]? = some (wr.heap[b]) := Array.getElem?_eq_getElem hb
      rw [hb']
      exact ((Ext.refl wr).alloc _).heap hb')
  have hk : KeepS (Nx w vl) (Nx w (.slice (some ⟨g, 0, none⟩) n c)) wr w' := by
    intro b o u hs hc
    have hb := World.block_lt_of_cell? wr ⟨b, o, none⟩ hc
    refine ⟨⟨hs.1, fun e => ?_⟩, (cell_heap (hold b hb hs.2)).trans hc⟩
    injection e with e
    rcases h3 with h3 | h3
    · exact hs.2 (h3.trans (congrArg some e))
    · have hb : b < wr.heap.size := hb
      have e : g = b := e
      omega
  refine ⟨hx, hlo, hrt, (hold rb (heap_lt h.res) (fun e => by have := (hlt rb e).1; omega)).trans h.res, (hold tb (heap_lt h.top) (fun e => by have := (hlt tb e).1; omega)).trans h.top, h1.keepP (fun _ _ hc => PtC.keep hc hk hn) (fun _ _ _ hg => hg)⟩
end
/-- A part in the first place of a row. -/
theorem SlP.head {S : Nat → Prop} {w : World} {v : Value} {p : PG.Part} {ps : List PG.Part} (h : SlP S w v (p :: ps)) : ∃ g o c A a, v = .slice (some ⟨g, o, none⟩) (ps.length + 1) c ∧ w.cell? ⟨g, o, none⟩ = some (.slice A p.l.length a) ∧ w.cell? ⟨g, o + 1, none⟩ = some (.int .i64 (p.n : Int)) ∧ SlN S w (.slice A p.l.length a) p.l := by
  obtain ⟨A, c, rfl, -, -⟩ := h.form
  obtain ⟨g, o, cs, rfl, ⟨B, b, rfl, hl⟩, hcell⟩ := h.atP (k := 0) (by simp)
  have h0 := hcell 0 _ rfl
  have h1 := hcell 1 _ rfl
  simp only [Nat.zero_mul, Nat.add_zero] at h0 h1
  exact ⟨g, o, c, B, b, rfl, h0, h1, hl⟩
/-- append([]rune(nil), set...), as a step of a region that draws its order. -/
theorem step_set {w : World} {ops : Array Oper} {o : Oper} {a : Act} {K : Act → World → Prop} {Q : Exit → Act → World → Prop} {E : Prop} (hgd : o.guard = none) (s x : Operand)
    (ho : o.op = .call { callee := .builtin .append, args := #[s, x], argTypes := #[23, 23] }) (ad : Addr) (set : List Int) (c : Nat)
    (hc : ∀ j y, set[j]? = some y → w.cell? (ad.add j) = some (.int .i32 y)) (hpos : 0 < set.length) (hm : set.length ≤ 1000000) (hs : a.eval s = .slice none 0 0) (hx : a.eval x = .slice (some ad) set.length c)
    (h : ∀ g cap w', (∀ S, NewIn S w → SlCS S w' (.slice (some ⟨g, 0, none⟩) set.length cap) set) → Ext w w' → K (a.put o.dst (.slice (some ⟨g, 0, none⟩) set.length cap)) w') :
    if Region.wanted o (yielded ops a.tmps) = true then Oper.wp Try.prog o a w K Q else E := by
  obtain ⟨i0, hi, hz0, hz1, hz2⟩ := info_parts info_c
  refine step_append_lies _ hgd s x 23 ho w.heap.size 21 i0 (.int .i32 0) 1 4 Try.underlying23 hi hz0 hz1 hz2 rfl (by decide) (.slice none 0 0) 0 [] hs ⟨by simp, .inl ⟨rfl, rfl⟩⟩ ad set.length c (set.map (Value.int .i32)) hx (by simp) (cells_map hc)
    (fun u hu => by obtain ⟨y, _, rfl⟩ := List.mem_map.1 hu; rfl) hpos (by unfold maxLen; omega) (by omega) (Nat.le_refl _) _ rfl ?_
  intro g cap w' h3 h4 _ _
  rw [Nat.zero_add] at h3 ⊢
  refine h g cap w' (fun S hS => ?_) ((Ext.refl w).grown h4 (fun k hk => by cases hk))
  obtain ⟨_, h5⟩ := h3
  rcases h5 with ⟨h5, _⟩ | ⟨g', cap', cur, hv, hb, hg, hle, hmx, hsz, htk⟩
  · cases h5
  injection hv with hv1 _ hv3
  injection hv1 with hv1
  injection hv1 with hv1
  subst hv1 hv3
  refine ⟨_, cap, rfl, hle, by unfold maxLen at hmx; omega, fun k y hy => ⟨g, 0, rfl, hS g hb, ?_⟩, by intro h; cases h⟩
  obtain ⟨hk, hky⟩ := List.getElem?_eq_some_iff.1 hy
  rw [cell_of_row w' g _ cur _ (0, 0) hg]
  have h6 : (cur.toList.take (set.length * 1))[k]? = some (.int .i32 y) := by rw [htk, List.nil_append, List.getElem?_map, hy]; rfl
  rw [List.getElem?_take, if_pos (by omega)] at h6
  simpa using h6
end Go.Proofs.Ytfblkahjefdmaaa
