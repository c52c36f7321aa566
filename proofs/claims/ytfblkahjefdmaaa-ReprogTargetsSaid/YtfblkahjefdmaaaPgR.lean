/- Walk: row of package reprog. -/
import Derived.Test.YtfblkahjefdmaaaPgQ
namespace Go.Proofs.Ytfblkahjefdmaaa
open Go.RowKit

theorem info_inst : (Try.prog.info? 53).map (fun i => (i.zero, i.size, i.bytes)) = some (some (.agg #[.int .i64 0, .int .i64 0, .int .i64 0, .bool false, .slice none 0 0]), 5, 56) := by kernel_rfl
/-- An own row, kept where its block and what its elements ask is kept. -/
theorem OwnB.keepP {α : Type} {t sz B : Nat} {C C' : World → List Value → α → Prop} {w w' : World} {v : Value} {xs : List α} (h : OwnB t sz C B w v xs) (hC : ∀ cs x, C w cs x → C' w' cs x)
    (ht : ∀ g cur, v.ownBlock = some g → w.heap[g]? = some (.cells cur t (0, 0)) → w'.heap[g]? = some (.cells cur t (0, 0))) : OwnB t sz C' B w' v xs := by
  obtain ⟨flat, hown, h2⟩ := h
  refine ⟨flat, ⟨hown.1, ?_⟩, fun k x hx => ?_⟩
  · rcases hown.2 with hn | ⟨g, cap, cur, hv, hb, hg, rest⟩
    · exact .inl hn
    · exact .inr ⟨g, cap, cur, hv, hb, ht g cur (by rw [hv]; rfl) hg, rest⟩
  · obtain ⟨cs, h6, h7⟩ := h2 k x hx
    exact ⟨cs, hC _ _ h6, h7⟩

/-- append(v, x) of one element, as a step of a region that draws its order. -/
theorem step_inst {α : Type} {P : Program} {w : World} {ops : Array Oper} {o : Oper} {a : Act} {K : Act → World → Prop} {Q : Exit → Act → World → Prop} {E : Prop} {t te sz bytes : Nat} {z : Value}
    (ht : P.underlying t = some (.slice te)) (hinf : (P.info? te).map (fun i => (i.zero, i.size, i.bytes)) = some (some z, sz, bytes)) (hzs : z.cells.size = sz) (hsz : 0 < sz) (hby : bytes ≤ 100)
    {T : List TypeId} {C : World → List Value → α → Prop} (hC : Keeps T C) (hT : te ∉ T)
    (hgd : o.guard = none) (s x : Operand) (ho : o.op = .call { callee := .builtin .append, args := #[s, x], argTypes := #[t, t] })
    (B : Nat) (v : Value) (xs : List α) (y : α) (cs : List Value) (tb : TypeId) (hown : OwnB te sz C B w v xs) (hy : C w cs y) (hcs : cs.length = sz) (h1 : ∀ u ∈ cs, u.oneCell' = true)
    (hs : a.eval s = v) (nb : Nat) (hx : a.eval x = .slice (some ⟨nb, 0, none⟩) 1 1) (hnb : nb = w.heap.size) (hn : xs.length ≤ 1000000000) (hB : B ≤ w.heap.size)
    (h : ∀ g cap w', OwnB te sz C B w' (.slice (some ⟨g, 0, none⟩) (xs.length + 1) cap) (xs ++ [y]) → (w.alloc (.cells cs.toArray tb)).grownBy w' v.ownBlock → K (a.put o.dst (.slice (some ⟨g, 0, none⟩) (xs.length + 1) cap)) w') :
    if Region.wanted o (yielded ops a.tmps) = true then Oper.wp P o a (w.alloc (.cells cs.toArray tb)) K Q else E := by
  subst hnb
  obtain ⟨i0, hi, hz0, hz1, hz2⟩ := info_parts hinf
  obtain ⟨flat, hr, h2⟩ := hown
  refine step_append_lies _ hgd s x t ho B te i0 z sz bytes ht hi hz0 hz1 hz2 hzs hsz v xs.length flat hs (World.ownsRow.alloc hr _) ⟨w.heap.size, 0, none⟩ 1 1 cs hx (by omega) (fun j u hu => news_all w cs tb j u hu) h1 (by decide) (by unfold maxLen; omega) (Nat.le_trans (Nat.mul_le_mul (show xs.length + 1 ≤ 1000000001 by omega) hby) (by omega)) (by simp; omega) _ rfl ?_
  intro g cap w' h3 h4 _ _
  refine h g cap w' (OwnB.snoc h2 hr.1 hC ?_ hy hcs h3) h4
  refine (KeepT.of_ext ((Ext.refl w).alloc _)).trans (KeepT.of_grown h4 (fun g hg => ?_))
  obtain ⟨cur, hh⟩ := own_type hr g hg
  exact ⟨cur, te, ((Ext.refl w).alloc _).heap hh, hT⟩

/-- An instruction whose set stood already in w. -/
abbrev Ic (S : Nat → Prop) (w : World) : World → List Value → PG.Inst → Prop := fun _ cs i => InC S w cs i
theorem keeps_ic (S : Nat → Prop) (w : World) (T : List TypeId) : Keeps T (Ic S w) := fun _ _ _ _ _ h => h
/-- Inside of row: the result's box rb, the box xb of what is made. -/
structure Rwz (S : Nat → Prop) (w : World) (rb xb : Nat) (vl : Value) (n : Int) (l : List PG.Inst) (wr : World) : Prop where
  new : NewIn S w
  ext : Ext w wr
  res : wr.heap[rb]? = some (.cells #[.slice none 0 0, .int .i64 0] 103 (0, 0))
  box : wr.heap[xb]? = some (.cells #[vl, .int .i64 n] 103 (0, 0))
  lo : w.heap.size ≤ rb
  lt : rb < xb
  own : OwnB 53 5 (Ic S w) (xb + 1) wr vl l
section
variable {S : Nat → Prop} {w wr w' : World} {rb xb : Nat} {vl vl' : Value} {n m : Int} {l l' : List PG.Inst}
theorem Rwz.ext_ (h : Rwz S w rb xb vl n l wr) (hx : Ext wr w') : Rwz S w rb xb vl n l w' :=
  ⟨h.new, h.ext.trans hx, hx.heap h.res, hx.heap h.box, h.lo, h.lt, h.own.keepP (fun _ _ hc => hc) (fun _ _ _ hg => hx.heap hg)⟩
theorem Rwz.c0 (h : Rwz S w rb xb vl n l wr) : wr.cell? ⟨xb, 0, none⟩ = some vl := cell_of_row wr xb 0 _ _ _ h.box
theorem Rwz.c1 (h : Rwz S w rb xb vl n l wr) : wr.cell? ⟨xb, 1, none⟩ = some (.int .i64 n) := cell_of_row wr xb 1 _ _ _ h.box
theorem Rwz.r0 (h : Rwz S w rb xb vl n l wr) : wr.cell? ⟨rb, 0, none⟩ = some (.slice none 0 0) := cell_of_row wr rb 0 _ _ _ h.res
theorem Rwz.r1 (h : Rwz S w rb xb vl n l wr) : wr.cell? ⟨rb, 1, none⟩ = some (.int .i64 0) := cell_of_row wr rb 1 _ _ _ h.res
theorem Rwz.fr (h : Rwz S w rb xb vl n l wr) (o : Nat) : wr.frozen? ⟨xb, o, none⟩ = false := frozen_of_row wr xb o _ _ h.box
theorem Rwz.frr (h : Rwz S w rb xb vl n l wr) (o : Nat) : wr.frozen? ⟨rb, o, none⟩ = false := frozen_of_row wr rb o _ _ h.res
theorem Rwz.setN (h : Rwz S w rb xb vl n l wr) : Rwz S w rb xb vl m l (wr.setCell ⟨xb, 1, none⟩ (.int .i64 m)) := by
  have hne : rb ≠ xb := by have := h.lt; omega
  refine ⟨h.new, h.ext.set (p := ⟨xb, 1, none⟩) (by have := h.lo; have := h.lt; show w.heap.size ≤ xb; omega) _, (heap_off hne).trans h.res, heap_set h.box, h.lo, h.lt, h.own.keepP (fun _ _ hc => hc) (fun g cur hg hh => ?_)⟩
  have := (h.own.lt g hg).1
  rw [heap_off (by omega : g ≠ xb)]; exact hh
/-- Behind an append, and its store. -/
theorem Rwz.boxA (h : Rwz S w rb xb vl n l wr) (h2 : wr.grownBy w' vl.ownBlock) : w'.heap[xb]? = some (.cells #[vl, .int .i64 n] 103 (0, 0)) :=
  (h2.block xb (heap_lt h.box) (by intro e; have := (h.own.lt xb e.symm).1; omega)).trans h.box
theorem Rwz.app (h : Rwz S w rb xb vl n l wr) (h1 : OwnB 53 5 (Ic S w) (xb + 1) w' vl' l') (h2 : wr.grownBy w' vl.ownBlock) : Rwz S w rb xb vl' n l' (w'.setCell ⟨xb, 0, none⟩ vl') := by
  have hne : rb ≠ xb := by have := h.lt; omega
  have hlt := fun k hk => (h.own.lt k hk).1
  have hr : w'.heap[rb]? = some (.cells #[.slice none 0 0, .int .i64 0] 103 (0, 0)) := (h2.block rb (heap_lt h.res) (by intro e; have := hlt rb e.symm; have := h.lt; omega)).trans h.res
  refine ⟨h.new, (h.ext.grown h2 (fun k hk => by have := hlt k hk; have := h.lo; have := h.lt; omega)).set (p := ⟨xb, 0, none⟩) (by have := h.lo; have := h.lt; show w.heap.size ≤ xb; omega) _, (heap_off hne).trans hr, heap_set (h.boxA h2), h.lo, h.lt, ?_⟩
  refine h1.keepP (fun _ _ hc => hc) (fun g cur hg hh => ?_)
  have := (h1.lt g hg).1
  rw [heap_off (by omega : g ≠ xb)]; exact hh
theorem Rwz.sln (h : Rwz S w rb xb vl n l wr) : SlN S wr vl l := by
  obtain ⟨A, c, hv, hl, hc, hn, ha⟩ := h.own.sl
  subst hv
  refine ⟨h.new.ext h.ext, A, c, rfl, hl, hc, fun k x hx => ?_, hn⟩
  cases A with
  | none =>
    have := hn rfl
    obtain ⟨hk, -⟩ := List.getElem?_eq_some_iff.1 hx
    omega
  | some ad =>
    obtain ⟨g, o, cur, rfl, hb, hg, _, h5⟩ := ha ad rfl
    obtain ⟨cs, h6, h7⟩ := h5 k x hx
    refine ⟨g, o, rfl, h.new g (by have := h.lo; have := h.lt; omega), cs, InC.ext h6 h.ext, ?_, fun j u hu => (cell_of_row wr g _ cur _ (0, 0) hg).trans (h7 j u hu)⟩
    obtain ⟨vs, rfl, _⟩ := h6
    rfl
/-- The result's row is new, and may be written. -/
theorem Rwz.newR (h : Rwz S w rb xb vl n l wr) {ad : Addr} {m c : Nat} (hv : vl = .slice (some ad) m c) : w.heap.size ≤ ad.block ∧ ad.block ≠ rb ∧ ∃ cur, wr.heap[ad.block]? = some (.cells cur 53 (0, 0)) := by
  subst hv
  obtain ⟨A, c', hv, hl, hc, hn, ha⟩ := h.own.sl
  injection hv with h1 _ _
  obtain ⟨g, o, cur, rfl, hb, hg, _⟩ := ha ad h1.symm
  have := h.lo
  have := h.lt
  exact ⟨by show w.heap.size ≤ g; omega, by show g ≠ rb; omega, cur, hg⟩
/-- The result, stored in its box. -/
theorem Rwz.retR (h : Rwz S w rb xb vl n l wr) {p : PG.Part} {A : Option Addr} {c : Nat} (hl : SlN S wr (.slice A p.l.length c) p.l) : PartR S p w (.returned (.agg #[.slice A p.l.length c, .int .i64 (p.n : Int)])) ((wr.setCell ⟨rb, 0, none⟩ (.slice A p.l.length c)).setCell ⟨rb, 1, none⟩ (.int .i64 (p.n : Int))) :=
  ⟨(h.ext.set (p := ⟨rb, 0, none⟩) h.lo _).set (p := ⟨rb, 1, none⟩) h.lo _, A, c, rfl, hl.off h.res (by intro x h; cases h) (fun i hi => (heap_off hi).trans (heap_off hi)) (by simp)⟩
end
theorem ret_fst {v u x y : Value} (h : Ending.returned (.agg #[v, x]) = .returned (.agg #[u, y])) : v = u := by
  injection h with h
  injection h with h
  simp at h
  exact h.1
/-- As PartR; the row is new, and may be written. -/
def RowR (S : Nat → Prop) (p : PG.Part) (w : World) (e : Ending) (w' : World) : Prop := PartR S p w e w' ∧ ∀ (ad : Addr) (m c : Nat) (x : Value), e = .returned (.agg #[.slice (some ad) m c, x]) → w.heap.size ≤ ad.block ∧ ∃ cur, w'.heap[ad.block]? = some (.cells cur 53 (0, 0))
/-- Parts that may be put one behind the other. -/
def Rowable (ps : List PG.Part) : Prop := ∀ p ∈ ps, PG.Fine p ∧ ∀ i ∈ p.l, MovOk i
set_option maxRecDepth 100000 in
set_option maxHeartbeats 4000000 in
theorem prow_all {S : Nat → Prop} (ps : List PG.Part) (v : Value) (w : World) (hs : SlP S w v ps) (hp : Rowable ps) : Calls Try.prog 66 #[v] w (RowR S (PG.row ps) w) := by
  obtain ⟨A, c, rfl, hlc, hcc⟩ := hs.form
  have HNW := Lib.hid hs.1
  have HS := Lib.hid hs
  have HP := Lib.hid hp
  obtain ⟨R, hR⟩ : ∃ R, PG.row ps = R := ⟨_, rfl⟩
  have HR := Lib.hid hR
  rw [hR]
  clear hs hp hR
  go_enter Try.func66, Try.ntmps66
  go_upto_region 3 with fail
  obtain ⟨rb, hrb⟩ : ∃ rb, rb = w.heap.size := ⟨_, rfl⟩
  obtain ⟨xb, hxb⟩ : ∃ xb, xb = w.heap.size + 1 := ⟨_, rfl⟩
  have HRB := Lib.hid hrb
  have HXB := Lib.hid hxb
  rw [← hxb, ← hrb]
  clear hxb hrb
  go_loopw [11] (fun x wr => ∃ (k : Nat) (vl : Value) (n : Nat) (l : List PG.Inst), k ≤ ps.length ∧ x = .int .i64 (k : Int) ∧ Rwz S w rb xb vl n l wr ∧ n < 301 ∧ l.length = n ∧ PG.rowL ⟨l, n⟩ (ps.drop k) = R) (fun x _ => ps.length - (intOf x).toNat)
  case atStart =>
    refine ⟨0, .slice none 0 0, 0, [], Nat.zero_le _, rfl, ⟨HNW.out, ?_, ?_, ?_, ?_, ?_, OwnB.nil_⟩, by decide, rfl, HR.out⟩
    · exact ((Ext.refl w).alloc _).alloc _
    · rw [HRB.out]; exact ((Ext.refl _).alloc _).heap (heap_alloc_new w _)
    · rw [HXB.out]; (have hh := heap_alloc_new (w.alloc (.cells #[.slice none 0 0, .int .i64 0] 103)) (.cells #[.slice none 0 0, .int .i64 0] 103)); rw [show (w.alloc (.cells #[.slice none 0 0, .int .i64 0] 103)).heap.size = w.heap.size + 1 by simp] at hh; exact hh
    · rw [HRB.out]; exact Nat.le_refl _
    · rw [HRB.out, HXB.out]; omega
  case round =>
    obtain ⟨k, vl, n, l, hk, rfl, hcs, hn3, hln, hT⟩ := hrel
    have HC := Lib.hid hcs
    have HT := Lib.hid hT
    have c0 := hcs.c0
    have c1 := hcs.c1
    have r0 := hcs.r0
    have r1 := hcs.r1
    have f0 := hcs.fr 0
    have f1 := hcs.fr 1
    have q0 := hcs.frr 0
    have q1 := hcs.frr 1
    have hxs := heap_lt hcs.box
    have hrs := heap_lt hcs.res
    have hrx : rb ≠ xb := Nat.ne_of_lt hcs.lt
    have hxr : xb ≠ rb := (Nat.ne_of_lt hcs.lt).symm
    have hwr := hcs.lo
    have hwx : w.heap.size ≤ xb := Nat.le_trans hcs.lo (Nat.le_of_lt hcs.lt)
    have hll : l.length ≤ 300 := by omega
    have HLN := Lib.hid hln
    clear hln
    obtain ⟨Al, cl, rfl, hcl, -⟩ := hcs.own.form
    clear hcs hT
    by_cases hlt : k < ps.length
    rotate_left
    · have HN := Lib.hid (show R = ⟨l, n⟩ by rw [← HT.out, List.drop_eq_nil_of_le (by omega), PG.rowL])
      go_wp2_with fail
      rw [HN.out]
      refine bodyPost_ret (v := .agg #[.slice Al l.length cl, .int .i64 (n : Int)]) (by simp [results, Try.results66, go_sem, r0, r1]) rfl ?_
      refine ⟨HC.out.retR (p := ⟨l, n⟩) HC.out.sln, fun ad m c' x he => ?_⟩
      have hv := ret_fst he
      obtain ⟨h1, h2, cur, h3⟩ := HC.out.newR hv
      exact ⟨h1, cur, ((heap_off h2).trans (heap_off h2)).trans h3⟩
    have HT2 := Lib.hid (show PG.rowL ⟨l, n⟩ (ps[k] :: ps.drop (k + 1)) = R by rw [← HT.out, List.drop_eq_getElem_cons hlt])
    have HPK := Lib.hid (HP.out ps[k] (List.getElem_mem hlt))
    obtain ⟨g, o, cs, rfl, ⟨Ap, cp, rfl, hlp⟩, hcell⟩ := HS.out.atP hlt
    have HLP := Lib.hid hlp
    have d0 : wr.cell? ⟨g, o + k * 2, none⟩ = _ := HC.out.ext.cell (hcell 0 _ rfl)
    have d1 : wr.cell? ⟨g, o + k * 2 + 1, none⟩ = _ := HC.out.ext.cell (hcell 1 _ rfl)
    generalize ps[k] = p at HT2 HPK HLP d0 d1
    have hplen : p.l.length ≤ p.n := by rcases HPK.out.1 with ⟨h1, h2⟩ | ⟨h1, h2⟩; omega; rw [h2]; simp
    have hpn : p.n ≤ 301 := by rcases HPK.out.1 with ⟨h1, h2⟩ | ⟨h1, h2⟩ <;> omega
    clear hlp hcell
    by_cases hto : 301 ≤ n + p.n
    · have HN := Lib.hid (show R = ⟨[], 301⟩ by rw [← HT2.out, PG.rowL, if_pos hto])
      have hto1 : (301 : Int) ≤ (n : Int) + p.n := by omega
      have hto2 : ¬ ((n : Int) + p.n < 301) := by omega
      rcases Int.lt_or_eq_of_le hto1 with h3 | h3
      · have h4 : ¬ ((n : Int) + p.n ≤ 301) := by omega
        clear hto hto1
        go_wp2_with fail
        rw [HN.out]
        refine bodyPost_ret (v := .agg #[.slice none 0 0, .int .i64 301]) (by simp [results, Try.results66, go_sem, r0, r1, hrs]) rfl ?_
        refine ⟨⟨((((HC.out.ext.set (p := ⟨xb, 1, none⟩) hwx _).set (p := ⟨rb, 0, none⟩) hwr _).set (p := ⟨rb, 1, none⟩) hwr _).alloc _), none, 0, rfl, SlN.nil_ (HC.out.new.ext ((((HC.out.ext.set (p := ⟨xb, 1, none⟩) hwx _).set (p := ⟨rb, 0, none⟩) hwr _).set (p := ⟨rb, 1, none⟩) hwr _).alloc _))⟩, fun ad m c' x he => ?_⟩
        have hv := ret_fst he
        cases hv
      · have h4 : (n : Int) + p.n = 301 := h3.symm
        clear hto hto1 hto2 h3
        go_wp2_with fail
        rw [HN.out]
        refine bodyPost_ret (v := .agg #[.slice none 0 0, .int .i64 301]) (by simp [results, Try.results66, go_sem, r0, r1, hrs]) rfl ?_
        refine ⟨⟨((((HC.out.ext.set (p := ⟨xb, 1, none⟩) hwx _).set (p := ⟨rb, 0, none⟩) hwr _).set (p := ⟨rb, 1, none⟩) hwr _).alloc _), none, 0, rfl, SlN.nil_ (HC.out.new.ext ((((HC.out.ext.set (p := ⟨xb, 1, none⟩) hwx _).set (p := ⟨rb, 0, none⟩) hwr _).set (p := ⟨rb, 1, none⟩) hwr _).alloc _))⟩, fun ad m c' x he => ?_⟩
        have hv := ret_fst he
        cases hv
    have HT3 := Lib.hid (show PG.rowL ⟨l ++ p.l.map (PG.moved l.length), n + p.n⟩ (ps.drop (k + 1)) = R by rw [← HT2.out, PG.rowL, if_neg hto])
    have hto1 : (n : Int) + p.n < 301 := by omega
    have HPE := Lib.hid (show p.l.length = p.n by rcases HPK.out.1 with ⟨h1, h2⟩ | ⟨h1, h2⟩ <;> omega)
    have HTO := Lib.hid hto
    clear hto
    have hb3 : ((n : Int) + p.n == 301) = false := by simp; omega
    go_upto_region 10 with fail
    have HC1 := Lib.hid ((HC.out.setN (m := (n : Int) + p.n)).ext_ ((Ext.refl _).alloc (.cells #[.slice Ap p.l.length cp, .int .i64 (p.n : Int)] 103)))
    clear c0 c1 r0 r1 f0 f1 q0 q1 d0 d1 HC hto1
    generalize (wr.setCell ⟨xb, 1, none⟩ (.int .i64 ((n : Int) + p.n))).alloc (.cells #[.slice Ap p.l.length cp, .int .i64 (p.n : Int)] 103) = w1 at HC1 ⊢
    go_loopw [32] (fun x wx => ∃ (j : Nat) (vl : Value), j ≤ p.l.length ∧ x = .int .i64 (j : Int) ∧ Rwz S w rb xb vl ((n : Int) + p.n) (l ++ (p.l.take j).map (PG.moved l.length)) wx) (fun x _ => p.l.length - (intOf x).toNat)
    case atStart => exact ⟨0, _, Nat.zero_le _, rfl, by simpa using HC1.out⟩
    case round =>
      obtain ⟨j, vl, hj, rfl, hcs⟩ := hrel
      obtain ⟨l2, hl2⟩ : ∃ l2, l ++ (p.l.take j).map (PG.moved l.length) = l2 := ⟨_, rfl⟩
      have hl2n : l2.length ≤ 601 := by rw [← hl2, List.length_append, List.length_map, List.length_take]; omega
      have HL2 := Lib.hid hl2
      rw [hl2] at hcs
      have HC := Lib.hid hcs
      have c0 := hcs.c0
      have c1 := hcs.c1
      have r0 := hcs.r0
      have r1 := hcs.r1
      have f0 := hcs.fr 0
      have f1 := hcs.fr 1
      have hxs := heap_lt hcs.box
      have hrs := heap_lt hcs.res
      obtain ⟨Al2, cl2, rfl, hcl2, -⟩ := hcs.own.form
      clear hcs hl2
      by_cases hjt : j < p.l.length
      rotate_left
      · have HN := Lib.hid (show l2 = l ++ p.l.map (PG.moved l.length) by rw [← HL2.out, List.take_of_length_le (by omega)])
        go_wp2_with fail
        go_roundw
        case rel => exact ⟨k + 1, _, n + p.n, l2, by omega, by go_num, by push_cast; exact HC.out, (by have := HTO.out; omega), by rw [HN.out, List.length_append, List.length_map, HPE.out, HLN.out], by rw [HN.out]; exact HT3.out⟩
        case measure => simp [intOf]; omega
      obtain ⟨g2, o2, cs2, rfl, ⟨vs, rfl, hvs⟩, hcell⟩ := HLP.out.atN hjt
      have e0 : wr.cell? ⟨g2, o2 + j * 5, none⟩ = _ := HC.out.ext.cell (hcell 0 _ rfl)
      have e1 : wr.cell? ⟨g2, o2 + j * 5 + 1, none⟩ = _ := HC.out.ext.cell (hcell 1 _ rfl)
      have e2 : wr.cell? ⟨g2, o2 + j * 5 + 2, none⟩ = _ := HC.out.ext.cell (hcell 2 _ rfl)
      have e3 : wr.cell? ⟨g2, o2 + j * 5 + 3, none⟩ = _ := HC.out.ext.cell (hcell 3 _ rfl)
      have e4 : wr.cell? ⟨g2, o2 + j * 5 + 4, none⟩ = _ := HC.out.ext.cell (hcell 4 _ rfl)
      have HMV := Lib.hid (HPK.out.2 _ (List.getElem_mem hjt))
      have HNX := Lib.hid (show l2 ++ [PG.moved l.length p.l[j]] = l ++ (p.l.take (j + 1)).map (PG.moved l.length) by rw [← HL2.out, List.take_succ_eq_append_getElem hjt, List.map_append, List.append_assoc]; rfl)
      obtain ⟨As, cs, rfl, hcs3, -⟩ := id hvs
      have HVS := Lib.hid hvs
      clear hcell hvs
      generalize p.l[j] = i at *
      have HMO := Lib.hid (fun W => moved_any i l.length As i.set.length cs W HMV.out (by omega))
      have HIC := Lib.hid (show InC S w [.int .i64 (PG.moved l.length i).op, .int .i64 (PG.moved l.length i).x, .int .i64 (PG.moved l.length i).y, .bool (PG.moved l.length i).neg, .slice As i.set.length cs] (PG.moved l.length i) from ⟨_, rfl, by rw [PG.moved_set]; exact HVS.out⟩)
      generalize PG.moved l.length i = i2 at HMO HIC HNX
      go_upto_region 12 with fail
      have HC3 := Lib.hid (HC.out.ext_ ((Ext.refl _).alloc (.cells #[.int .i64 i.op, .int .i64 i.x, .int .i64 i.y, .bool i.neg, .slice As i.set.length cs] 53)))
      have hn0 := heap_alloc_new wr (.cells #[.int .i64 i.op, .int .i64 i.x, .int .i64 i.y, .bool i.neg, .slice As i.set.length cs] 53)
      clear c0 c1 r0 r1 f0 f1 e0 e1 e2 e3 e4 HC hxs hrs
      generalize wr.alloc (.cells #[.int .i64 i.op, .int .i64 i.x, .int .i64 i.y, .bool i.neg, .slice As i.set.length cs] 53) = w3 at HC3 hn0 ⊢
      generalize wr.heap.size = nb at hn0 ⊢
      have c0 := HC3.out.c0
      have f0 := HC3.out.fr 0
      have e0 := cell_of_row w3 nb 0 _ _ _ hn0
      have e1 := cell_of_row w3 nb 1 _ _ _ hn0
      have e2 := cell_of_row w3 nb 2 _ _ _ hn0
      have e3 := cell_of_row w3 nb 3 _ _ _ hn0
      have e4 := cell_of_row w3 nb 4 _ _ _ hn0
      clear hn0
      have hl2m : l2.length ≤ 1000000000 := by omega
      go_region_law (first | (refine step_go 98 enter_moved rfl _ _ rfl #[.agg #[.int .i64 i.op, .int .i64 i.x, .int .i64 i.y, .bool i.neg, .slice As i.set.length cs], .int .i64 l.length] ?hvs _ (HMO.out _) ?_; (case hvs => (simp [go_sem])); rintro e w4 ⟨hx, rfl⟩; refine ⟨_, rfl, ?_⟩; (have HC4 := Lib.hid (HC3.out.ext_ (((Ext.refl _).drew).trans hx)); have c0 := HC4.out.c0; have f0 := HC4.out.fr 0; have hxs4 : xb < w4.heap.size := heap_lt HC4.out.box; have hB4 : xb + 1 ≤ w4.heap.size := hxs4; clear hx)) | (go_loud (refine step_inst Try.underlying48 info_inst rfl (by decide) (by decide) (keeps_ic S w []) (by simp) rfl _ _ (by rfl) (xb + 1) _ l2 i2 [.int .i64 i2.op, .int .i64 i2.x, .int .i64 i2.y, .bool i2.neg, .slice As i.set.length cs] 53 HC4.out.own HIC.out rfl (by simp [Value.oneCell']) (by rfl) w4.heap.size (by rfl) rfl hl2m hB4 ?_; intro gg cap w5 h1 h2; have HC5 := Lib.hid (HC4.out.ext_ ((Ext.refl w4).alloc (.cells #[.int .i64 i2.op, .int .i64 i2.x, .int .i64 i2.y, .bool i2.neg, .slice As i.set.length cs] 53))); have hb := HC5.out.boxA h2; have c0 := cell_of_row w5 xb 0 _ _ _ hb; have f0 := frozen_of_row w5 xb 0 _ _ hb; have HF := Lib.hid (HC5.out.app h1 h2); clear hb h1 h2)))
      all_goals
        go_wp2_with fail
        go_roundw
        case rel => exact ⟨j + 1, _, by omega, by go_num, by rw [← HNX.out]; exact HF.out⟩
        case measure => simp [intOf]; omega
theorem prow_any {S : Nat → Prop} (ps : List PG.Part) (v : Value) (w : World) (hs : SlP S w v ps) (hp : Rowable ps) : Calls Try.prog 66 #[v] w (PartR S (PG.row ps) w) := (prow_all ps v w hs hp).mono fun _ _ h => h.1
end Go.Proofs.Ytfblkahjefdmaaa
