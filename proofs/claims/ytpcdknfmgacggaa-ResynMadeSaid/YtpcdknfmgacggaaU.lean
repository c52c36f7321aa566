/- For ResynMadeS: what the texts XPgB of wip/tpl say. -/
import Derived.Test.YtpcdknfmgacggaaT
import Derived.Laws.OwnMore
namespace Go.Proofs.Ytpcdknfmgacggaa
open Go.RowKit
/-- append([]rune(nil), set...), of any set, as a step of a region that draws its order. -/
theorem step_setA {S : Nat → Prop} {w : World} {ops : Array Oper} {o : Oper} {a : Act} {K : Act → World → Prop} {Q : Exit → Act → World → Prop} {E : Prop} (hgd : o.guard = none) (s x : Operand)
    (ho : o.op = .call { callee := .builtin .append, args := #[s, x], argTypes := #[23, 23] }) (v : Value) (set : List Int) (hv : SlCS S w v set) (hm : set.length ≤ 1000000) (hs : a.eval s = .slice none 0 0) (hx : a.eval x = v)
    (h : ∀ A cap w', SlB 21 1 Cc w.heap.size w' (.slice A set.length cap) set → Ext w w' → K (a.put o.dst (.slice A set.length cap)) w') :
    if Region.wanted o (yielded ops a.tmps) = true then Oper.wp Try.prog o a w K Q else E := by
  obtain ⟨i0, hi, hz0, hz1, hz2⟩ := info_parts info_c
  have hw : Region.wanted o (yielded ops a.tmps) = true := by simp [Region.wanted, hgd]
  rw [if_pos hw]
  have hnil : w.ownsRow w.heap.size 21 1 (.slice none 0 0) 0 [] := ⟨by simp, .inl ⟨rfl, rfl⟩⟩
  obtain ⟨A, c, rfl, hlc, hcm, hcell, hnone⟩ := hv
  cases A with
  | none =>
    have hc := hnone rfl
    subst hc
    have h0 : set = [] := List.eq_nil_of_length_eq_zero (by omega)
    subst h0
    have hrun := run_append_owned_none (P := Try.prog) (w := w) w.heap.size 23 o.type 21 i0 1 Try.underlying23 hi (.slice none 0 0) 0 [] hnil
    have hh := h none 0 w SlB.nil_ (Ext.refl _)
    unfold Oper.wp execOp
    simp only [ho, resolve, invoke, builtin, Sem.run_bind, Sem.run_pure, Result.andThen_ok, List.map_toArray, List.map_cons, List.map_nil, hs, hx, List.length_nil, hrun]
    exact hh
  | some ad =>
    have hnews : ∀ j u, (set.map (Value.int .i32))[j]? = some u → w.cell? (ad.add j) = some u := cells_map fun j y hy => by
      obtain ⟨b, o, hA, -, hr⟩ := hcell j y hy
      obtain rfl := Option.some.inj hA
      rw [Nat.mul_one] at hr
      have : (⟨b, o, none⟩ : Addr).add j = ⟨b, o + j, none⟩ := by unfold Addr.add; split <;> simp_all
      rw [this]; exact hr
    obtain ⟨v', w', hrun, hown, hgr, -⟩ := run_append_own (P := Try.prog) (w := w) w.heap.size 23 o.type 21 i0 (.int .i32 0) 1 4 Try.underlying23 hi hz0 hz1 hz2 rfl (by decide) (.slice none 0 0) 0 [] hnil ad set.length c (set.map (Value.int .i32)) (by simp) hnews
      (fun u hu => by obtain ⟨y, _, rfl⟩ := List.mem_map.1 hu; rfl) (by unfold maxLen; omega) (by omega) (Nat.le_refl _)
    rw [Nat.zero_add, List.nil_append] at hown
    have hB := OwnB.of_flat_i32 hown
    obtain ⟨A', c', rfl, -⟩ := hB.form
    have hh := h A' c' w' hB.sl ((Ext.refl w).grown hgr (fun k hk => by cases hk))
    unfold Oper.wp execOp
    simp only [ho, resolve, invoke, builtin, Sem.run_bind, Sem.run_pure, Result.andThen_ok, List.map_toArray, List.map_cons, List.map_nil, hs, hx, hrun]
    exact hh
/-- Instructions in new blocks, that may be written; their sets likewise. -/
def IcW (B : Nat) (w : World) (cs : List Value) (i : PG.Inst) : Prop := ∃ vs, cs = [.int .i64 i.op, .int .i64 i.x, .int .i64 i.y, .bool i.neg, vs] ∧ SlB 21 1 Cc B w vs i.set
section
variable {w wr w' : World} {fb pb g o c k : Nat} {n : Int} {l : List PG.Inst}
end
/-- Inside of Compile, ahead of the program: the result's fault. -/
structure Cmr (w : World) (fb : Nat) (wr : World) : Prop where
  ext : Ext w wr
  lof : w.heap.size ≤ fb
  flt : wr.heap[fb]? = some (.cells #[.int .i64 0, .int .i64 0] 39 (0, 0))
section
variable {w wr w' : World} {fb : Nat}
theorem Cmr.ext_ (h : Cmr w fb wr) (hx : Ext wr w') : Cmr w fb w' := ⟨h.ext.trans hx, h.lof, hx.heap h.flt⟩
theorem Cmr.r0 (h : Cmr w fb wr) : wr.cell? ⟨fb, 0, none⟩ = some (.int .i64 0) := cell_of_row wr fb 0 _ _ _ h.flt
theorem Cmr.r1 (h : Cmr w fb wr) : wr.cell? ⟨fb, 1, none⟩ = some (.int .i64 0) := cell_of_row wr fb 1 _ _ _ h.flt
theorem Cmr.fr (h : Cmr w fb wr) (i : Nat) : wr.frozen? ⟨fb, i, none⟩ = false := frozen_of_row wr fb i _ _ h.flt
theorem Cmr.new (h : Cmr w fb wr) : NewIn (Nw w) wr := newIn_le h.ext.size
end
end Go.Proofs.Ytpcdknfmgacggaa
