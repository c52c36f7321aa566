/- Walk: put of package format. -/
import Derived.Test.YtfblkahjefdmaaaDoorFdJ
namespace Go.Proofs.YtfblkahjefdmaaaDoor
open Go.RowKit

theorem step_i32 {w : World} {ops : Array Oper} {o : Oper} {a : Act} {K : Act → World → Prop} {Q : Exit → Act → World → Prop} {E : Prop}
    (hgd : o.guard = none) (s x : Operand) (ho : o.op = .call { callee := .builtin .append, args := #[s, x], argTypes := #[22, 22] })
    (B : Nat) (v : Value) (xs ys : List Int) (hown : OwnB 21 1 Cc B w v xs) (hs : a.eval s = v) (ad : Addr) (m c : Nat) (hx : a.eval x = .slice (some ad) m c) (hm : m = ys.length) (hm0 : 0 < m)
    (hc : ∀ j y, ys[j]? = some y → w.cell? (ad.add j) = some (.int .i32 y)) (hn : xs.length + ys.length ≤ 35184372088832) (hB : B ≤ w.heap.size)
    (h : ∀ g cap w', OwnB 21 1 Cc B w' (.slice (some ⟨g, 0, none⟩) (xs.length + m) cap) (xs ++ ys) → w.grownBy w' v.ownBlock → K (a.put o.dst (.slice (some ⟨g, 0, none⟩) (xs.length + m) cap)) w') :
    if Region.wanted o (yielded ops a.tmps) = true then Oper.wp Tryd.prog o a w K Q else E := by
  subst hm
  obtain ⟨i0, hi, hz0, hz1, hz2⟩ := info_parts info_c
  refine step_append_lies _ hgd s x _ ho B 21 i0 (.int .i32 0) 1 4 Tryd.underlying22 hi hz0 hz1 hz2 rfl (by decide) v xs.length _ hs hown.flat_i32 ad ys.length c (ys.map (Value.int .i32)) hx (by simp) (cells_map hc) ?_ hm0 (by unfold maxLen; omega) (by omega) hB _ rfl ?_
  · intro u hu
    simp at hu
    obtain ⟨y, _, rfl⟩ := hu
    rfl
  · intro g cap w' h1 h2 _ _
    refine h g cap w' (OwnB.of_flat_i32 ?_) h2
    rw [List.map_append, List.length_append]
    exact h1
theorem lit_at {W : World} {ys : List Int} {g : Nat} (h : W.heap[g]? = some (.cells (ys.map (Value.int .i32)).toArray 21 (0, 0))) : ∀ j y, ys[j]? = some y → W.cell? ((⟨g, 0, none⟩ : Addr).add j) = some (.int .i32 y) := by
  intro j y hy
  have e : (⟨g, 0, none⟩ : Addr).add j = ⟨g, j, none⟩ := by unfold Addr.add; split <;> simp_all
  rw [e, cell_of_row W g j _ _ _ h]
  simp [hy]

/-- Inside of put: the row so far; the part's box. -/
structure Pts (w0 ws : World) (nb : Nat) (cs : List Value) (v : Value) (out : List Int) (wr : World) : Prop where
  acs : Acs w0 v out wr
  box : wr.heap[nb]? = some (.cells cs.toArray 34 (0, 0))
  keep : KeepT [34] ws wr
section
variable {w0 ws wr w' : World} {nb : Nat} {cs : List Value} {v v' : Value} {out out' : List Int}
theorem Pts.ext_ (h : Pts w0 ws nb cs v out wr) (hx : Ext wr w') : Pts w0 ws nb cs v out w' := ⟨h.acs.call hx, hx.heap h.box, h.keep.trans (KeepT.of_ext hx)⟩
theorem Pts.app (h : Pts w0 ws nb cs v out wr) (h1 : OwnB 21 1 Cc w0.heap.size w' v' out') (h2 : wr.grownBy w' v.ownBlock) : Pts w0 ws nb cs v' out' w' :=
  ⟨h.acs.app h1 h2, h.acs.keepF h2 nb _ _ (by simp) h.box, h.keep.trans (h.acs.keepF h2)⟩
theorem Pts.grp (h : Pts w0 ws nb cs v out wr) (h1 : Acs w0 v' out' w') (h2 : KeepT [34] wr w') : Pts w0 ws nb cs v' out' w' := ⟨h1, h2 nb _ _ (by simp) h.box, h.keep.trans h2⟩
theorem Pts.c (h : Pts w0 ws nb cs v out wr) (i : Nat) (u : Value) (hu : cs[i]? = some u) : wr.cell? ⟨nb, i, none⟩ = some u := (cell_of_row wr nb i _ _ _ h.box).trans (by simpa using hu)
end

set_option maxRecDepth 100000 in
set_option maxHeartbeats 1000000 in
theorem put_text (w0 wr : World) (v vt ve : Value) (out : List Int) (f : FM.Form) (h : Acs w0 v out wr) (ht : SlC w0 vt f.text) (he : SlC w0 ve f.els) (hk : f.kind = 0) (hb : out.length + 2 * f.text.length ≤ 35184372088000) :
    Calls Tryd.prog 33 #[v, .agg #[.int .i64 f.kind, .int .i64 f.group, .int .i64 f.cas, vt, ve]] wr (GrP w0 (out ++ FM.put f) wr) := by
  have HP := Lib.hid (show FM.put f = FM.guard FM.outer f.text by unfold FM.put; rw [if_pos hk])
  obtain ⟨k, g, c, t, e⟩ := f
  dsimp only at ht he hk hb HP ⊢
  subst hk
  have HG := Lib.hid (fun W (hW : Acs w0 v out W) => guarded_any FM.outer _ among_outer w0 W v vt out t hW ht hb)
  have HC := Lib.hid h
  obtain ⟨At, ct, rfl, -⟩ := ht
  obtain ⟨Ae, ce, rfl, -⟩ := he
  obtain ⟨Ao, co, rfl, -⟩ := h.own.form
  clear h
  go_enter Tryd.func33, Tryd.ntmps33
  go_wp2_with (go_at_call 47; go_loud (refine (HG.out _ (Acs.alloc HC.out)).mono ?_; rintro e' w' ⟨A', c', rfl, h1, h2⟩; have HX := Lib.hid (And.intro h1 h2); clear h1 h2; generalize hl : out ++ FM.guard FM.outer t = out2 at HX ⊢; have HL := Lib.hid hl; clear hl))
  go_ret
  rw [HP.out, HL.out]
  exact ⟨_, _, rfl, HX.out.1, (KeepT.of_ext ((Ext.refl wr).alloc _)).trans HX.out.2⟩
end Go.Proofs.YtfblkahjefdmaaaDoor
