/- Walk: many of package reprog. -/
import Derived.Test.YtfblkahjefdmaaaGreatPa
namespace Go.Proofs.YtfblkahjefdmaaaGreat
open Go.RowKit

/-- append(v, x) of one element, the new value spelled out. -/
theorem app_part {α : Type} {P : Program} {w : World} {ops : Array Oper} {rest : List Oper} {o : Oper} {a : Act} {Q : Exit → Act → World → Prop} {t te sz bytes : Nat} {z : Value}
    (ht : P.underlying t = some (.slice te)) (hinf : (P.info? te).map (fun i => (i.zero, i.size, i.bytes)) = some (some z, sz, bytes)) (hzs : z.cells.size = sz) (hsz : 0 < sz) (hby : bytes ≤ 100)
    {T : List TypeId} {C : World → List Value → α → Prop} (hC : Keeps T C) (hT : te ∉ T)
    (hgd : o.guard = none) (s x : Operand) (ho : o.op = .call { callee := .builtin .append, args := #[s, x], argTypes := #[t, t] })
    (B : Nat) (v : Value) (xs : List α) (y : α) (cs : List Value) (tb : TypeId) (hown : OwnB te sz C B w v xs) (hy : C w cs y) (hcs : cs.length = sz) (h1 : ∀ u ∈ cs, u.oneCell' = true)
    (hs : a.eval s = v) (nb : Nat) (hx : a.eval x = .slice (some ⟨nb, 0, none⟩) 1 1) (hnb : nb = w.heap.size) (hn : xs.length ≤ 1000000000) (hB : B ≤ w.heap.size)
    (h : ∀ g cap w', OwnB te sz C B w' (.slice (some ⟨g, 0, none⟩) (xs.length + 1) cap) (xs ++ [y]) → (w.alloc (.cells cs.toArray tb)).grownBy w' v.ownBlock → wpList P ops Q rest (a.put o.dst (.slice (some ⟨g, 0, none⟩) (xs.length + 1) cap)) w') :
    wpList P ops Q (o :: rest) a (w.alloc (.cells cs.toArray tb)) := by
  subst hnb
  obtain ⟨i0, hi, hz0, hz1, hz2⟩ := info_parts hinf
  obtain ⟨flat, hr, h2⟩ := hown
  refine wpList_append_lies _ hgd s x t ho B te i0 z sz bytes ht hi hz0 hz1 hz2 hzs hsz v xs.length flat hs (World.ownsRow.alloc hr _) ⟨w.heap.size, 0, none⟩ 1 1 cs hx (by omega) (fun j u hu => news_all w cs tb j u hu) h1 (by decide) (by unfold maxLen; omega) (Nat.le_trans (Nat.mul_le_mul (show xs.length + 1 ≤ 1000000001 by omega) hby) (by omega)) (by simp; omega) _ rfl ?_
  intro g cap w' h3 h4 _ _
  refine h g cap w' (OwnB.snoc h2 hr.1 hC ?_ hy hcs h3) h4
  refine (KeepT.of_ext ((Ext.refl w).alloc _)).trans (KeepT.of_grown h4 (fun g hg => ?_))
  obtain ⟨cur, hh⟩ := own_type hr g hg
  exact ⟨cur, te, ((Ext.refl w).alloc _).heap hh, hT⟩
theorem info_part : (Tryz.prog.info? 66).map (fun i => (i.zero, i.size, i.bytes)) = some (some (.agg #[.slice none 0 0, .int .i64 0]), 2, 32) := by kernel_rfl
/-- A part that stood already in w. -/
abbrev Pc (S : Nat → Prop) (w : World) : World → List Value → PG.Part → Prop := fun _ cs p => PtC S w cs p
theorem keeps_pc (S : Nat → Prop) (w : World) (T : List TypeId) : Keeps T (Pc S w) := fun _ _ _ _ _ h => h
theorem OwnB.slp {S : Nat → Prop} {w wr : World} {B : Nat} {v : Value} {ps : List PG.Part} (h : OwnB 66 2 (Pc S w) B wr v ps) (hx : Ext w wr) (hN : NewIn S w) : SlP S wr v ps := by
  obtain ⟨A, c, hv, hl, hc, hn, ha⟩ := h.sl
  subst hv
  have hS : SlB 66 2 (Pc S w) B wr (.slice A ps.length c) ps := ⟨A, c, rfl, hl, hc, hn, ha⟩
  refine ⟨hN.ext hx, A, c, rfl, hl, hc, fun k x hx => ?_, hn⟩
  obtain ⟨hk, rfl⟩ := List.getElem?_eq_some_iff.1 hx
  obtain ⟨g, o, cs, h1, h2, h3⟩ := SlB.at_ hS hk
  exact ⟨g, o, h1, cs, PtC.ext h2 (by assumption), h3⟩
/-- Inside of many: the boxes, the row of parts. -/
structure Mny (S : Nat → Prop) (w : World) (pb rb : Nat) (v : Value) (n : Int) (vl : Value) (ps : List PG.Part) (wr : World) : Prop where
  pbx : Pbx w pb rb v n wr
  lt : pb < rb
  own : OwnB 66 2 (Pc S w) (rb + 1) wr vl ps
section
variable {S : Nat → Prop} {w wr w' : World} {pb rb : Nat} {v vl vl' : Value} {n : Int} {ps ps' : List PG.Part}
theorem Mny.ext_ (h : Mny S w pb rb v n vl ps wr) (hx : Ext wr w') : Mny S w pb rb v n vl ps w' := ⟨h.pbx.ext_ hx, h.lt, h.own.keepP (fun _ _ hc => hc) (fun _ _ _ hg => hx.heap hg)⟩
theorem Mny.app (h : Mny S w pb rb v n vl ps wr) (h1 : OwnB 66 2 (Pc S w) (rb + 1) w' vl' ps') (h2 : wr.grownBy w' vl.ownBlock) : Mny S w pb rb v n vl' ps' w' := by
  have hlt := fun k hk => (h.own.lt k hk).1
  have := h.lt
  have := h.pbx.lo
  exact ⟨⟨h.pbx.ext.grown h2 (fun k hk => by have := hlt k hk; omega), h.pbx.lo, (h2.block pb (heap_lt h.pbx.box) (by intro e; have := hlt pb e.symm; omega)).trans h.pbx.box, (h2.block rb (heap_lt h.pbx.res) (by intro e; have := hlt rb e.symm; omega)).trans h.pbx.res⟩, h.lt, h1⟩
end
set_option maxRecDepth 100000 in
set_option maxHeartbeats 4000000 in
theorem pmany_any {S : Nat → Prop} (p : PG.Part) (m : Nat) (A : Option Addr) (c : Nat) (w : World) (hs : SlN S w (.slice A p.l.length c) p.l) (hp : Rok p) (hm : m ≤ 1000000000) :
    Calls Tryz.prog 51 #[.agg #[.slice A p.l.length c, .int .i64 (p.n : Int)], .int .i64 (m : Int)] w (PartR S (PG.many p m) w) := by
  have HS := Lib.hid hs
  have HP := Lib.hid hp
  have hpn := hp.le
  obtain ⟨R, hR⟩ : ∃ R, PG.many p m = R := ⟨_, rfl⟩
  have HR := Lib.hid hR
  rw [hR]
  clear hs hp hR
  go_enter Tryz.func51, Tryz.ntmps51
  go_upto_if 8 with fail
  have HC := Lib.hid (show Pbx w w.heap.size (w.heap.size + 1) (.slice A p.l.length c) (p.n : Int) _ from ⟨((Ext.refl w).alloc (.cells #[.slice A p.l.length c, .int .i64 (p.n : Int)] 66)).alloc (.cells #[.slice none 0 0, .int .i64 0] 66), Nat.le_succ _, heap_alloc_1 _ _ _, heap_alloc_2 _ _ _⟩)
  generalize (w.alloc (.cells #[.slice A p.l.length c, .int .i64 (p.n : Int)] 66)).alloc (.cells #[.slice none 0 0, .int .i64 0] 66) = w1 at HC ⊢
  generalize hrb : w.heap.size + 1 = rb at HC ⊢
  generalize hpb : w.heap.size = pb at HC hrb ⊢
  have hpr : pb ≠ rb := by omega
  have hrp : rb ≠ pb := by omega
  have HLT := Lib.hid (show pb < rb by omega)
  clear hpb hrb
  by_cases h0 : p.n = 0
  · have HN := Lib.hid (show R = ⟨[], 0⟩ by rw [← HR.out, PG.many, if_pos h0])
    have h0i : ((p.n : Int) == 0) = true := by simp; omega
    have r0 := HC.out.r0
    have r1 := HC.out.r1
    have f0 := HC.out.fr 0
    have f1 := HC.out.fr 1
    clear h0
    go_wp2_with fail
    rw [HN.out]
    refine bodyPost_ret (v := .agg #[.slice none 0 0, .int .i64 0]) (by simp [results, Tryz.results51, go_sem, r0, r1]) rfl ?_
    exact part_retB (p := ⟨[], 0⟩) HC.out.ext HC.out.lo HC.out.res (SlN.nil_ (HS.out.1.ext HC.out.ext))
  have HN := Lib.hid (show PG.row (List.replicate m p) = R by rw [← HR.out, PG.many, if_neg h0])
  have h0i : ((p.n : Int) == 0) = false := by simp; omega
  clear h0
  rw [h0i]
  go_upto_region 5 with fail
  go_loopw [5, 11] (fun v5 x wr => ∃ k : Nat, k ≤ m ∧ x = .int .i64 (k : Int) ∧ Mny S w pb rb (.slice A p.l.length c) (p.n : Int) v5 (List.replicate k p) wr) (fun _ x _ => m - (intOf x).toNat)
  case atStart => exact ⟨0, Nat.zero_le _, rfl, HC.out, HLT.out, OwnB.nil_⟩
  case round =>
    obtain ⟨k, hk, rfl, hc⟩ := hrel
    obtain ⟨l, hl0⟩ : ∃ l, List.replicate k p = l := ⟨_, rfl⟩
    rw [hl0] at hc
    have HLR := Lib.hid hl0
    obtain ⟨Al, cl, rfl, hcl, -⟩ := hc.own.form
    have HM := Lib.hid hc
    have c0 := hc.pbx.c0
    have c1 := hc.pbx.c1
    have hB : rb + 1 ≤ wr.heap.size := heap_lt hc.pbx.res
    have hl : l.length ≤ 1000000000 := by rw [← hl0, List.length_replicate]; omega
    clear hc hl0
    by_cases hlt : k < m
    · go_wp2_with (at_builtin; go_loud (refine app_part Tryz.underlying100 info_part rfl (by decide) (by decide) (keeps_pc S w []) (by simp) rfl _ _ rfl (rb + 1) _ l p [.slice A p.l.length c, .int .i64 (p.n : Int)] 66 HM.out.own ⟨A, c, rfl, HS.out⟩ rfl (by simp [Value.oneCell']) rfl wr.heap.size rfl rfl hl hB ?_; intro gg cap w5 h1 h2; have HF := Lib.hid ((HM.out.ext_ ((Ext.refl wr).alloc (.cells #[.slice A p.l.length c, .int .i64 (p.n : Int)] 66))).app h1 h2); clear h1 h2))
      go_roundw
      case rel => exact ⟨k + 1, by omega, by go_num, by rw [List.replicate_succ', HLR.out]; exact HF.out⟩
      case measure => simp [intOf]; omega
    · have hkm : k = m := by omega
      subst hkm
      have HRP := Lib.hid (HM.out.own.slp HM.out.pbx.ext HS.out.1)
      have HROW := Lib.hid (prow_any l _ wr HRP.out (fun x hx => by rw [← HLR.out] at hx; rw [List.eq_of_mem_replicate hx]; exact HP.out))
      rw [show PG.row l = R by rw [← HLR.out]; exact HN.out] at HROW
      go_wp2_with (go_at_call 28; go_loud (refine HROW.out.mono ?_; rintro e w4 ⟨hx4, A4, c4, rfl, hl4⟩; have HL4 := Lib.hid hl4; have HC4 := Lib.hid (HM.out.pbx.ext_ hx4); have r0 := HC4.out.r0; have r1 := HC4.out.r1; have f0 := HC4.out.fr 0; have f1 := HC4.out.fr 1; clear hl4))
      refine bodyPost_ret (v := .agg #[.slice A4 R.l.length c4, .int .i64 (R.n : Int)]) (by simp [results, Tryz.results51, go_sem, r0, r1]) rfl ?_
      exact part_retB HC4.out.ext HC4.out.lo HC4.out.res HL4.out
end Go.Proofs.YtfblkahjefdmaaaGreat
