/- Walk: Run of package transform. -/
import Derived.Test.YtfblkahjefdmaaaTrH
import Derived.Deep.RegionHeld3
namespace Go.Proofs.Ytfblkahjefdmaaa
open Go.RowKit

/-- append(v, src...) of signs to an own row, as a step of a region that draws its order. -/
theorem step_appC {w : World} {ops : Array Oper} {o : Oper} {a : Act} {K : Act → World → Prop} {Q : Exit → Act → World → Prop} {E : Prop} (hgd : o.guard = none) (s x : Operand)
    (ho : o.op = .call { callee := .builtin .append, args := #[s, x], argTypes := #[23, 23] }) (B : Nat) (v src : Value) (xs ys : List Int) (hown : OwnB 21 1 Cc B w v xs) (hs : a.eval s = v) (hx : a.eval x = src) (hsrc : SlC w src ys)
    (hn : xs.length + ys.length ≤ 35184372088832) (hB : B ≤ w.heap.size)
    (h : ∀ v' w', OwnB 21 1 Cc B w' v' (xs ++ ys) → w.grownBy w' v.ownBlock → K (a.put o.dst v') w') :
    if Region.wanted o (yielded ops a.tmps) = true then Oper.wp Try.prog o a w K Q else E := by
  obtain ⟨i0, hi, hz0, hz1, hz2⟩ := info_parts info_c
  have hw : Region.wanted o (yielded ops a.tmps) = true := by simp [Region.wanted, hgd]
  rw [if_pos hw]
  obtain ⟨A, c, rfl, hlc, hcm, hcell, hnone⟩ := hsrc
  cases A with
  | none =>
    have hc := hnone rfl
    subst hc
    have h0 : ys = [] := List.eq_nil_of_length_eq_zero (by omega)
    subst h0
    have hrun := run_append_owned_none (P := Try.prog) (w := w) B 23 o.type 21 i0 1 Try.underlying23 hi v xs.length (xs.map (Value.int .i32)) hown.flat_i32
    have hh := h v w (by rw [List.append_nil]; exact hown) (World.grownBy.refl _ _)
    unfold Oper.wp execOp
    simp only [ho, resolve, invoke, builtin, Sem.run_bind, Sem.run_pure, Result.andThen_ok, List.map_toArray, List.map_cons, List.map_nil, hs, hx, List.length_nil, hrun]
    exact hh
  | some ad =>
    have hnews : ∀ j u, (ys.map (Value.int .i32))[j]? = some u → w.cell? (ad.add j) = some u := cells_map fun j y hy => by
      obtain ⟨b, o, hA, hr⟩ := hcell j y hy
      obtain rfl := Option.some.inj hA
      rw [Nat.mul_one] at hr
      have : (⟨b, o, none⟩ : Addr).add j = ⟨b, o + j, none⟩ := by unfold Addr.add; split <;> simp_all
      rw [this]; exact hr
    obtain ⟨v', w', hrun, hown', hgr, -⟩ := run_append_own (P := Try.prog) (w := w) B 23 o.type 21 i0 (.int .i32 0) 1 4 Try.underlying23 hi hz0 hz1 hz2 rfl (by decide) v xs.length (xs.map (Value.int .i32)) hown.flat_i32 ad ys.length c (ys.map (Value.int .i32)) (by simp) hnews
      (fun u hu => by obtain ⟨y, _, rfl⟩ := List.mem_map.1 hu; rfl) (by unfold maxLen; omega) (by omega) hB
    have hh := h v' w' (OwnB.of_flat_i32 (by rw [List.map_append, List.length_append]; exact hown')) hgr
    unfold Oper.wp execOp
    simp only [ho, resolve, invoke, builtin, Sem.run_bind, Sem.run_pure, Result.andThen_ok, List.map_toArray, List.map_cons, List.map_nil, hs, hx, hrun]
    exact hh
/-- Inside of Run: the text's box sb, the fault's box fb. -/
structure Rnb (w : World) (sb fb : Nat) (sv : Value) (wr : World) : Prop where
  ext : Ext w wr
  lof : w.heap.size ≤ fb
  box : wr.heap[sb]? = some (.cells #[sv] 23 (0, 0))
  flt : wr.heap[fb]? = some (.cells #[.int .i64 0, .int .i64 0] 36 (0, 0))
section
variable {w wr w' : World} {sb fb : Nat} {sv : Value}
theorem Rnb.ext_ (h : Rnb w sb fb sv wr) (hx : Ext wr w') : Rnb w sb fb sv w' := ⟨h.ext.trans hx, h.lof, hx.heap h.box, hx.heap h.flt⟩
theorem Rnb.k0 (h : Rnb w sb fb sv wr) : wr.cell? ⟨sb, 0, none⟩ = some sv := samere_b h.box rfl
theorem Rnb.r0 (h : Rnb w sb fb sv wr) : wr.cell? ⟨fb, 0, none⟩ = some (.int .i64 0) := samere_b h.flt rfl
theorem Rnb.r1 (h : Rnb w sb fb sv wr) : wr.cell? ⟨fb, 1, none⟩ = some (.int .i64 0) := samere_b h.flt rfl
theorem Rnb.fr (h : Rnb w sb fb sv wr) (i : Nat) : wr.frozen? ⟨fb, i, none⟩ = false := frozen_of_row wr fb i _ _ h.flt
theorem Rnb.set (h : Rnb w sb fb sv wr) (x y : Value) : Ext w ((wr.setCell ⟨fb, 0, none⟩ x).setCell ⟨fb, 1, none⟩ y) := (h.ext.set (p := ⟨fb, 0, none⟩) h.lof _).set (p := ⟨fb, 1, none⟩) h.lof _
theorem Rnb.own (h : Rnb w sb fb sv wr) {B : Nat} {v : Value} {xs : List Int} (ho : OwnB 21 1 Cc B wr v xs) (x y : Value) : OwnB 21 1 Cc B ((wr.setCell ⟨fb, 0, none⟩ x).setCell ⟨fb, 1, none⟩ y) v xs :=
  OwnB.keepP ho (fun _ _ hc => hc) (fun g cur _ hg => by
    have hne : g ≠ fb := types_ne hg h.flt (by decide)
    rw [heap_off hne, heap_off hne]; exact hg)
end
/-- What is kept while a match is replaced. -/
def TrnR (w2 : World) (lb : Nat) (v : Value) (w' : World) : Prop := Ext w2 w' ∧ w'.heap[lb]? = some (.cells #[v] 22 (0, 0))
theorem TrnR.kpt (w2 : World) (lb : Nat) (v : Value) : Kpt (TrnR w2 lb v) w2.heap.size :=
  ⟨fun _ _ h hx => ⟨h.1.trans hx, hx.heap h.2⟩, fun w w' vo xs h ho hg => ⟨h.1.grown hg (fun k hk => (ho.lt k hk).1), (hg.block lb (heap_lt h.2) (by
    intro e
    obtain ⟨cur, hh⟩ := ho.type lb e.symm
    exact types_ne hh h.2 (by decide) rfl)).trans h.2⟩, fun _ h => h.1.size⟩
/-- What Run returns. -/
def TrnP (s p : List Int) (forms : List FM.Form) (all fold : Bool) (w : World) (e : Ending) (w' : World) : Prop :=
  Ext w w' ∧ ∃ v text code bat, e = .returned (.tuple #[v, .agg #[.int .i64 code, .int .i64 bat]]) ∧ OwnB 21 1 Cc w.heap.size w' v text ∧ TR.RunQ s p forms all fold text code bat
theorem slg_two {w : World} {g n : Nat} {va vb : Value} {xs ys : List Int} (hg : g = w.heap.size) (hn : n = 2) (ha : SlC w va xs) (hb : SlC w vb ys) : SlG (w.alloc (.cells #[va, vb] 23)) (.slice (some ⟨g, 0, none⟩) n n) [xs, ys] := by
  subst hg hn
  have hx := (Ext.refl w).alloc (.cells #[va, vb] 23)
  refine ⟨_, 2, rfl, Nat.le_refl _, by omega, fun k x hk => ⟨w.heap.size, 0, rfl, ?_⟩, by intro h; cases h⟩
  rw [Nat.mul_one, Nat.zero_add]
  match k, hk with
  | 0, hk => simp at hk; subst hk; exact ⟨va, by rw [World.cell?_alloc_new]; rfl, ha.ext hx⟩
  | 1, hk => simp at hk; subst hk; exact ⟨vb, by rw [World.cell?_alloc_new]; rfl, hb.ext hx⟩
set_option maxRecDepth 100000 in
set_option maxHeartbeats 4000000 in
theorem trun_any (s p : List Int) (forms : List FM.Form) (vs vp vf : Value) (all fold : Bool) (w : World) (hs : SlC w vs s) (hp : SlC w vp p) (hf : SlF w vf forms) :
    Calls Try.prog 49 #[vs, vp, vf, .bool all, .bool fold] w (TrnP s p forms all fold w) := by
  obtain ⟨As, cs, rfl, hsc, hscm, -⟩ := id hs
  obtain ⟨Ap, cp, rfl, hpc, hpcm, -⟩ := id hp
  obtain ⟨Af, cf, rfl, hfc, hfcm⟩ := hf.form2
  have hE1 := ((Ext.refl w).alloc (.cells #[.slice As s.length cs] 23)).alloc (.cells #[.int .i64 0, .int .i64 0] 36)
  have HM1 := Lib.hid (show Rnb w w.heap.size (w.heap.size + 1) (.slice As s.length cs) ((w.alloc (.cells #[.slice As s.length cs] 23)).alloc (.cells #[.int .i64 0, .int .i64 0] 36)) from
    ⟨hE1, Nat.le_succ _, ((Ext.refl _).alloc _).heap (heap_alloc_new w _), heap_new2 w _ _⟩)
  have HS1 := Lib.hid (SlC.ext hs hE1)
  have HP1 := Lib.hid (SlC.ext hp hE1)
  have HF1 := Lib.hid (SlF.ext hf hE1)
  have hbn : w.heap.size ≠ w.heap.size + 1 := by omega
  obtain ⟨Q, hQ⟩ : ∃ Q, TR.RunQ s p forms all fold = Q := ⟨_, rfl⟩
  have HQ := Lib.hid hQ
  unfold TrnP
  rw [hQ]
  clear hs hp hf hE1 hQ
  go_enter Try.func49, Try.ntmps49
  go_upto_region 1 with fail
  generalize (w.alloc _).alloc _ = w1 at HM1 HS1 HP1 HF1 ⊢
  generalize w.heap.size + 1 = fb at HM1 hbn ⊢
  generalize hsb : w.heap.size = sb at HM1 hbn ⊢
  have HSB := Lib.hid hsb
  clear hsb
  have k0 := HM1.out.k0
  have r0 := HM1.out.r0
  have r1 := HM1.out.r1
  have f0 := HM1.out.fr 0
  have f1 := HM1.out.fr 1
  have HBAD := Lib.hid (fun (h : ¬ (s.all RX.isSign = true ∧ s.length ≤ 1000 ∧ FM.may forms = true)) => show Q [] 1 0 by rw [← HQ.out]; unfold TR.RunQ; rw [if_neg h]; exact ⟨rfl, rfl, rfl⟩)
  rcases hA : s.all RX.isSign with _ | _
  · have HA := Lib.hid hA
    have HR := Lib.hid (HBAD.out (by rw [hA]; simp))
    clear hA
    go_wp2_with (go_at_call 81; go_loud (refine (mays_any s _ _ HS1.out).mono ?_; rw [HA.out]; rintro e w2 ⟨rfl, n2, rfl⟩))
    refine bodyPost_ret (v := .tuple #[.slice none 0 0, .agg #[.int .i64 1, .int .i64 0]]) (by simp [results, Try.results49, go_sem, r0, r1]) rfl ?_
    exact ⟨HM1.out.ext_ ((Ext.refl _).drewN _) |>.set _ _, _, [], 1, 0, rfl, OwnB.nil_, HR.out⟩
  have HA := Lib.hid hA
  by_cases hl1 : s.length ≤ 1000
  rotate_left
  · have d1 : decide ((1000 : Int) < (s.length : Int)) = true := decide_eq_true (by omega)
    have HR := Lib.hid (HBAD.out (fun h => hl1 h.2.1))
    clear hA hl1
    go_wp2_with (go_at_call 81; go_loud (refine (mays_any s _ _ HS1.out).mono ?_; rw [HA.out]; rintro e w2 ⟨rfl, n2, rfl⟩))
    refine bodyPost_ret (v := .tuple #[.slice none 0 0, .agg #[.int .i64 1, .int .i64 0]]) (by simp [results, Try.results49, go_sem, r0, r1]) rfl ?_
    exact ⟨HM1.out.ext_ ((Ext.refl _).drewN _) |>.set _ _, _, [], 1, 0, rfl, OwnB.nil_, HR.out⟩
  have d1 : decide ((1000 : Int) < (s.length : Int)) = false := decide_eq_false (by omega)
  rcases hB : FM.may forms with _ | _
  · have HB := Lib.hid hB
    have HR := Lib.hid (HBAD.out (by rw [hB]; simp))
    clear hA hB
    go_wp2_with (first | (go_at_call 81; go_loud (refine (mays_any s _ _ HS1.out).mono ?_; rw [HA.out]; rintro e w2 ⟨rfl, n2, rfl⟩)) | (go_at_call 52; go_loud (refine (may2_any forms _ _ (SlF.ext HF1.out (by first | exact (Ext.refl _).drewN _ | exact Ext.refl _))).mono ?_; rw [HB.out]; rintro e w3 ⟨rfl, hx3⟩; have HM3 := Lib.hid (HM1.out.ext_ (Ext.trans (by first | exact (Ext.refl _).drewN _ | exact Ext.refl _) hx3)); have HX3 := Lib.hid (Ext.trans (show Ext w1 _ by first | exact (Ext.refl _).drewN _ | exact Ext.refl _) hx3); have k0 := HM3.out.k0; have r0 := HM3.out.r0; have r1 := HM3.out.r1; have f0 := HM3.out.fr 0; have f1 := HM3.out.fr 1; clear hx3)))
    refine bodyPost_ret (v := .tuple #[.slice none 0 0, .agg #[.int .i64 1, .int .i64 0]]) (by simp [results, Try.results49, go_sem, r0, r1]) rfl ?_
    exact ⟨HM3.out.set _ _, _, [], 1, 0, rfl, OwnB.nil_, HR.out⟩
  have HB := Lib.hid hB
  have HOK := Lib.hid (show ∀ text code bat, Q text code bat = ((∃ c b, PG.compile p = ([], c, b) ∧ c ≠ 0 ∧ text = [] ∧ code = c ∧ bat = b) ∨
    (∃ l t k L, PG.compile p = (l, 0, 0) ∧ RX.parse p = (t, 0, 0) ∧ PG.Made l (RX.groups t) k ∧ TR.Fnd (MX.act l fold s) s.length (MX.blank (RX.groups t)) all L ∧ ((TR.goR s forms L [] 0 = none ∧ text = [] ∧ code = 3 ∧ bat = 0) ∨ (TR.goR s forms L [] 0 = some text ∧ code = 0 ∧ bat = 0)))) by
    intro text code bat
    rw [← HQ.out]
    unfold TR.RunQ
    rw [if_pos ⟨hA, hl1, hB⟩])
  have HMG := Lib.hid (fun f (hf : f ∈ forms) => FM.may_grp hB hf)
  clear hA hB HBAD
  go_upto_region 3 with (first | (go_at_call 81; go_loud (refine (mays_any s _ _ HS1.out).mono ?_; rw [HA.out]; rintro e w2 ⟨rfl, n2, rfl⟩)) | (go_at_call 52; go_loud (refine (may2_any forms _ _ (SlF.ext HF1.out (by first | exact (Ext.refl _).drewN _ | exact Ext.refl _))).mono ?_; rw [HB.out]; rintro e w3 ⟨rfl, hx3⟩; have HM3 := Lib.hid (HM1.out.ext_ (Ext.trans (by first | exact (Ext.refl _).drewN _ | exact Ext.refl _) hx3)); have HX3 := Lib.hid (Ext.trans (show Ext w1 _ by first | exact (Ext.refl _).drewN _ | exact Ext.refl _) hx3); have k0 := HM3.out.k0; have r0 := HM3.out.r0; have r1 := HM3.out.r1; have f0 := HM3.out.fr 0; have f1 := HM3.out.fr 1; clear hx3)))
  have HS3 := Lib.hid (SlC.ext HS1.out HX3.out)
  have HP3 := Lib.hid (SlC.ext HP1.out HX3.out)
  have HF3 := Lib.hid (SlF.ext HF1.out HX3.out)
  clear HM1 HS1 HP1 HF1 HX3
  go_wp2_with fail
  refine (mnew_any p fold _ _ HP3.out).mono ?_
  rintro e w4 ⟨hE4, hnew⟩
  rcases hnew with ⟨hc0, rfl⟩ | ⟨l, t, k, mb, vq, hcm, hpt, hmd, hst, hgl, rfl, hmt, -, -⟩
  · obtain ⟨C, hC⟩ : ∃ C, PG.compile p = C := ⟨_, rfl⟩
    rw [hC] at hc0 ⊢
    obtain ⟨cl, code, bat⟩ := C
    dsimp only at hc0 ⊢
    have hb : (code != 0) = true := by simpa using hc0
    have HR := Lib.hid (show Q [] code bat by
      rw [HOK.out]
      have := PG.compile_bad hC hc0
      subst this
      exact .inl ⟨code, bat, hC, hc0, rfl, rfl, rfl⟩)
    have HM5 := Lib.hid (HM3.out.ext_ (hE4.alloc (.cells #[.int .i64 code, .int .i64 bat] 36)))
    have q0 : (w4.alloc (.cells #[.int .i64 code, .int .i64 bat] 36)).cell? ⟨w4.heap.size, 0, none⟩ = some (.int .i64 code) := by rw [World.cell?_alloc_new]; rfl
    have q1 : (w4.alloc (.cells #[.int .i64 code, .int .i64 bat] 36)).cell? ⟨w4.heap.size, 1, none⟩ = some (.int .i64 bat) := by rw [World.cell?_alloc_new]; rfl
    have hne : w4.heap.size ≠ fb := by
      have h9 := heap_lt ((HM3.out.ext_ hE4).flt)
      omega
    clear hC hc0 k0 r0 r1 f0 f1
    have r0 := HM5.out.r0
    have r1 := HM5.out.r1
    have f0 := HM5.out.fr 0
    have f1 := HM5.out.fr 1
    clear HM3 hE4
    go_upto_region 4 with fail
    generalize w4.alloc _ = w5 at HM5 q0 q1 r0 r1 f0 f1 ⊢
    generalize w4.heap.size = xb at q0 q1 hne ⊢
    go_wp2_with fail
    go_region
    go_wp2_with fail
    refine bodyPost_ret (v := .tuple #[.slice none 0 0, .agg #[.int .i64 code, .int .i64 bat]]) (by simp [results, Try.results49, go_sem, r0, r1]) rfl ?_
    exact ⟨(HM5.out.ext_ (Ext.refl _).drew) |>.set _ _, _, [], code, bat, rfl, OwnB.nil_, HR.out⟩
  have hx4 := hE4.alloc (.cells #[.int .i64 0, .int .i64 0] 36)
  have HM5 := Lib.hid (HM3.out.ext_ hx4)
  have q0 : (w4.alloc (.cells #[.int .i64 0, .int .i64 0] 36)).cell? ⟨w4.heap.size, 0, none⟩ = some (.int .i64 0) := by rw [World.cell?_alloc_new]; rfl
  have HS5 := Lib.hid (SlC.ext HS3.out hx4)
  have HF5 := Lib.hid (SlF.ext HF3.out hx4)
  have HMT := Lib.hid (hmt.ext ((Ext.refl w4).alloc (.cells #[.int .i64 0, .int .i64 0] 36)))
  have HMD := Lib.hid hmd
  have HST := Lib.hid hst
  have HCM := Lib.hid hcm
  have HPT := Lib.hid hpt
  clear k0 r0 r1 f0 f1 HM3 hE4 hx4 hmt hmd hst hcm hpt HS3 HF3 HP3
  have k0 := HM5.out.k0
  go_upto_region 4 with fail
  generalize w4.alloc _ = w5 at HM5 q0 HS5 HF5 HMT k0 ⊢
  generalize w4.heap.size = xb at q0 ⊢
  go_wp2_with fail
  refine (tfound_any all HMD.out HST.out hgl HMT.out HS5.out hl1).mono ?_
  rintro e w6 ⟨hE6, L, v6, hfnd, rfl, hL⟩
  obtain ⟨A6, c6, rfl, hlc6, hcm6⟩ := hL.form
  have HMS := Lib.hid (TR.fnd_mts HMD.out hfnd)
  have HFN := Lib.hid hfnd
  have HM6 := Lib.hid (HM5.out.ext_ hE6)
  have HS6 := Lib.hid (SlC.ext HS5.out hE6)
  have HF6 := Lib.hid (SlF.ext HF5.out hE6)
  have HL6 := Lib.hid hL
  obtain ⟨TT, hTT⟩ : ∃ T, TR.goR s forms L [] 0 = T := ⟨_, rfl⟩
  have HTT := Lib.hid hTT
  have HNO := Lib.hid (show TT = none → Q [] 3 0 by
    intro h
    rw [HOK.out]
    exact .inr ⟨l, t, k, L, HCM.out, HPT.out, HMD.out, HFN.out, .inl ⟨by rw [HTT.out, h], rfl, rfl, rfl⟩⟩)
  have HYES := Lib.hid (show ∀ o, TT = some o → Q o 0 0 by
    intro o h
    rw [HOK.out]
    exact .inr ⟨l, t, k, L, HCM.out, HPT.out, HMD.out, HFN.out, .inr ⟨by rw [HTT.out, h], rfl, rfl⟩⟩)
  clear hfnd hE6 hL k0 q0 hTT HM5 HS5 HF5 HMT
  go_wp2_with fail
  go_loopw [14, 15, 50] (fun x14 x15 x50 wr => ∃ (k : Nat) (out : List Int) (at_ : Nat), k ≤ L.length ∧ x50 = .int .i64 (k : Int) ∧ x15 = .int .i64 (at_ : Int) ∧ Ext w6 wr ∧ OwnB 21 1 Cc w6.heap.size wr x14 out ∧ out.length ≤ 1000 + at_ ∧ at_ ≤ s.length ∧ TR.Mts s.length at_ (L.drop k) ∧ TR.goR s forms (L.drop k) out at_ = TT) (fun _ _ x50 _ => L.length - (intOf x50).toNat)
  case atStart => exact ⟨0, [], 0, Nat.zero_le _, rfl, rfl, Ext.refl _, OwnB.nil_, by simp, Nat.zero_le _, HMS.out, HTT.out⟩
  case round =>
    obtain ⟨k, out, at_, hk, rfl, rfl, hx, hown, hol, hats, hmts, hgo⟩ := hrel
    have HX := Lib.hid hx
    have HO := Lib.hid hown
    obtain ⟨Ao, co, rfl, -⟩ := hown.form
    have HMR := Lib.hid (HM6.out.ext_ hx)
    have HSR := Lib.hid (SlC.ext HS6.out hx)
    have k0 := HMR.out.k0
    have s1 : IntKind.i64.wrap ((s.length : Int) - (at_ : Int)) = (s.length : Int) - (at_ : Int) := IntWalk.i64_in _ (by omega)
    have s2 : IntKind.i64.wrap ((1000 : Int) - (out.length : Int)) = (1000 : Int) - (out.length : Int) := IntWalk.i64_in _ (by omega)
    by_cases hlt : k < L.length
    rotate_left
    · have hd : decide ((k : Int) < (L.length : Int)) = false := by simp; omega
      rw [List.drop_eq_nil_of_le (by omega), TR.goR] at hgo
      have r0 := HMR.out.r0
      have r1 := HMR.out.r1
      have f0 := HMR.out.fr 0
      have f1 := HMR.out.fr 1
      by_cases hfit : (1000 : Int) - (out.length : Int) < (s.length : Int) - (at_ : Int)
      · have d2 : decide ((1000 : Int) - (out.length : Int) < (s.length : Int) - (at_ : Int)) = true := decide_eq_true hfit
        have HR := Lib.hid (HNO.out (by rw [← hgo, if_pos hfit]))
        clear hfit hgo hmts hown hx
        go_wp2_with fail
        refine bodyPost_ret (v := .tuple #[.slice none 0 0, .agg #[.int .i64 3, .int .i64 0]]) (by simp [results, Try.results49, go_sem, r0, r1]) rfl ?_
        exact ⟨HMR.out.set _ _, _, [], 3, 0, rfl, OwnB.nil_, HR.out⟩
      · have d2 : decide ((1000 : Int) - (out.length : Int) < (s.length : Int) - (at_ : Int)) = false := decide_eq_false hfit
        have HR := Lib.hid (HYES.out _ (by rw [← hgo, if_neg hfit]))
        obtain ⟨i0, hi0, hz0, hz1, hz2⟩ := info_parts info_c
        have hsl := fun W => run_sl_lo (P := Try.prog) Try.underlying23 hi0 As (n := s.length) (c := cs) (k := at_) hats W
        rw [hz1] at hsl
        have HCU := Lib.hid (SlR.cut HSR.out hats)
        have hlen : s.length - at_ ≤ 1000 := by omega
        clear hfit hgo hmts hown hx
        go_wp2_with (go_at_call 85; go_loud (refine (sconcat_any [out, s.drop at_] _ _ (slg_two rfl rfl (SlB.slc HO.out.sl) HCU.out) (by simp; omega) (by simp)).mono ?_; rintro e w7 ⟨v7, rfl, ho7, hx7⟩; have HO7 := Lib.hid ho7; have HM7 := Lib.hid (HMR.out.ext_ (((Ext.refl wr).alloc _).trans hx7)); have r0 := HM7.out.r0; have r1 := HM7.out.r1; have f0 := HM7.out.fr 0; have f1 := HM7.out.fr 1; have HSZ := Lib.hid (((Ext.refl wr).alloc (.cells #[.slice Ao out.length co, .slice (cutA As cs at_ 1) (s.length - at_) (cs - at_)] 23)).size); clear ho7 hx7))
        refine bodyPost_ret (v := .tuple #[v7, .agg #[.int .i64 0, .int .i64 0]]) (by simp [results, Try.results49, go_sem, r0, r1]) rfl ?_
        refine ⟨HM7.out.set _ _, v7, out ++ s.drop at_, 0, 0, rfl, ?_, HR.out⟩
        have h9 := HM7.out.own HO7.out (.int .i64 0) (.int .i64 0)
        rw [show [out, s.drop at_].flatten = out ++ s.drop at_ by simp] at h9
        exact OwnB.weak h9 (Nat.le_trans HMR.out.ext.size HSZ.out)
    have hd : decide ((k : Int) < (L.length : Int)) = true := by simp; omega
    have hki : (k : Int) < (L.length : Int) := by omega
    obtain ⟨g3, o3, cs3, rfl, ⟨u3, rfl, nb, rfl, -, hh3⟩, hcell3⟩ := HL6.out.at_ (k := k) hlt
    have q3 := hx.cell (hcell3 0 _ rfl)
    simp only [Nat.mul_one, Nat.add_zero] at q3
    rw [List.drop_eq_getElem_cons hlt] at hmts hgo
    generalize L[k] = c at hmts hgo q3 hh3
    obtain ⟨a, b, ha, hb, hata, hab, hbs, hall, hnext⟩ : ∃ a b : Nat, c[0]? = some (a : Int) ∧ c[1]? = some (b : Int) ∧ at_ ≤ a ∧ a ≤ b ∧ b ≤ s.length ∧ (∀ x ∈ c, x = -1 ∨ (0 ≤ x ∧ x ≤ (s.length : Int))) ∧ TR.Mts s.length b (L.drop (k + 1)) := by
      cases hmts with
      | cons _ a b _ _ h1 h2 h3 h4 h5 h6 h7 => exact ⟨a, b, h1, h2, h3, h4, h5, h6, h7⟩
    have hcl : 2 ≤ c.length := by
      obtain ⟨h1, -⟩ := List.getElem?_eq_some_iff.1 hb
      omega
    have HRR := Lib.hid (show TrnR w6 wr.heap.size (.slice (some ⟨nb, 0, none⟩) c.length c.length) (wr.alloc (.cells #[.slice (some ⟨nb, 0, none⟩) c.length c.length] 22)) from ⟨hx.alloc _, heap_alloc_new wr _⟩)
    have HN := Lib.hid hh3
    have HALL := Lib.hid hall
    have HNX := Lib.hid hnext
    have HN0 := Lib.hid (cell_note hh3 ha)
    have HN1 := Lib.hid (cell_note hh3 hb)
    have HK0 := Lib.hid HM6.out.k0
    have hc0 : (0 : Int) < (c.length : Int) := by omega
    have hc1 : (1 : Int) < (c.length : Int) := by omega
    have hc0n : 0 < c.length := by omega
    have hc1n : 1 < c.length := by omega
    have hatn : at_ ≤ a := hata
    have hati : (at_ : Int) ≤ (a : Int) := by omega
    have hacs : a ≤ cs := by omega
    have haci : (a : Int) ≤ (cs : Int) := by omega
    have e0 : (c.getD 0 0).toNat = a := by rw [List.getD_eq_getElem?_getD, ha]; simp
    have e1 : (c.getD 1 0).toNat = b := by rw [List.getD_eq_getElem?_getD, hb]; simp
    rw [TR.goR, e0, e1] at hgo
    have HOW := Lib.hid (OwnB.keepB HO.out (keepsB_c _) (fun _ _ _ ho => ((Ext.refl wr).alloc (.cells #[.slice (some ⟨nb, 0, none⟩) c.length c.length] 22)).heap ho))
    have HCU := Lib.hid (SlR.cut3 HS6.out hata (show a ≤ s.length by omega))
    obtain ⟨mid, hmid⟩ : ∃ m, (s.drop at_).take (a - at_) = m := ⟨_, rfl⟩
    have hml : mid.length ≤ a - at_ := by rw [← hmid, List.length_take]; omega
    rw [hmid] at hgo HCU
    have hsum : out.length + mid.length ≤ 1000 + a := by omega
    have HFIL := Lib.hid (fun (lb : Nat) (w' : World) (vo : Value) (hR : TrnR w6 lb (.slice (some ⟨nb, 0, none⟩) c.length c.length) w') (ho : OwnB 21 1 Cc w6.heap.size w' vo (out ++ mid)) =>
      tfillr_any (TrnR w6 lb (.slice (some ⟨nb, 0, none⟩) c.length c.length)) w6.heap.size (TrnR.kpt _ _ _) forms (.slice Af forms.length cf) (out ++ mid) vo (.pointer (some ⟨lb, 0, none⟩)) (.pointer (some ⟨sb, 0, none⟩)) (TR.cut s c) w' hR ho
        (fun w'' h => SlF.ext HF6.out h.1) (fun f hf w'' h => rung_any f.group (HMG.out f hf).1 (by have := (HMG.out f hf).2; omega) lb sb nb c.length c.length As cs s c w'' (SlC.ext HS6.out h.1) (samere_b h.2 rfl) rfl (fun i x hx => h.1.cell (cell_note HN.out hx)) (h.1.cell HK0.out) HALL.out)
        (fun k => Nat.le_trans (TR.cut_len s c k) (by omega)) (by rw [List.length_append]; omega))
    have HFL := Lib.hid (TR.fillR_len (TR.cut s c) 1000 forms (out ++ mid))
    obtain ⟨fr, hfr⟩ : ∃ fr, TR.fillR (TR.cut s c) 1000 forms (out ++ mid) = fr := ⟨_, rfl⟩
    rw [hfr] at HFIL HFL hgo
    obtain ⟨o2, ho2⟩ : ∃ o2, out ++ mid = o2 := ⟨_, rfl⟩
    have hol2 : o2.length ≤ 1000 + a := by rw [← ho2, List.length_append]; exact hsum
    rw [ho2] at HFIL HFL
    have HO2 := Lib.hid ho2
    obtain ⟨i0, hi0, hz0, hz1, hz2⟩ := info_parts info_c
    have hsl := fun W => run_sl_both (P := Try.prog) Try.underlying23 hi0 As (n := s.length) (c := cs) (k := at_) (m := a) hata (by omega) W
    rw [hz1] at hsl
    have HKP := Lib.hid (fun lb => TrnR.kpt w6 lb (.slice (some ⟨nb, 0, none⟩) c.length c.length))
    have hsz := hx.size
    clear hmts hown hx hcell3 hh3 hall hnext ha hb e0 e1 hmid hfr ho2 k0
    go_upto_region 12 with fail
    generalize wr.alloc _ = w7 at HRR HOW ⊢
    generalize wr.heap.size = lb at HRR ⊢
    have k0 := HRR.out.1.cell HK0.out
    have kl := samere_b (o := 0) HRR.out.2 rfl
    have kn := HRR.out.1.cell HN0.out
    have HRD := Lib.hid ((HKP.out lb).ext _ _ HRR.out (Ext.refl w7).drew)
    have HOD := Lib.hid (show OwnB 21 1 Cc w6.heap.size w7.drew (.slice Ao out.length co) out from HOW.out)
    have HCD := Lib.hid (SlC.ext HCU.out HRD.out.1)
    cases fr with
    | none =>
      have HNN := Lib.hid (HNO.out hgo.symm)
      clear hgo
      go_region_held3 (fun w' => w'.cell? ⟨sb, 0, none⟩ = some (.slice As s.length cs) ∧ w'.cell? ⟨lb, 0, none⟩ = some (.slice (some ⟨nb, 0, none⟩) c.length c.length) ∧ w'.cell? ⟨nb, 0, none⟩ = some (.int .i64 (a : Int)))
        (first | go_keep | (go_split_ands; refine ⟨?_, ?_, ?_⟩ <;> assumption))
        (first
          | (go_at_call 84; go_loud (refine (HFIL.out lb _ _ HR8.out HO8.out).mono ?_); go_loud (rintro e w9 ⟨hR9, rfl⟩; have HR9 := Lib.hid hR9; have k0 := hR9.1.cell HK0.out; have kl := samere_b (o := 0) hR9.2 rfl; have kn := hR9.1.cell HN0.out; clear hR9))
          | (go_loud (refine step_appC rfl _ _ (by rfl) w6.heap.size (.slice Ao out.length co) _ out mid HOD.out (by rfl) (by rfl) HCD.out (by omega) HRD.out.1.size ?_; intro v8 w8 h1 h2; have hR8 := (HKP.out lb).own _ _ _ _ HRD.out HOD.out h2; rw [HO2.out] at h1; obtain ⟨A8, c8, rfl, -⟩ := h1.form; have HO8 := Lib.hid h1; have HR8 := Lib.hid hR8; have k0 := hR8.1.cell HK0.out; have kl := samere_b (o := 0) hR8.2 rfl; have kn := hR8.1.cell HN0.out; clear h1 h2 hR8)))
      have HM9 := Lib.hid (HM6.out.ext_ HR9.out.1)
      have r0 := HM9.out.r0
      have r1 := HM9.out.r1
      have f0 := HM9.out.fr 0
      have f1 := HM9.out.fr 1
      go_wp2_with fail
      refine bodyPost_ret (v := .tuple #[.slice none 0 0, .agg #[.int .i64 3, .int .i64 0]]) (by simp [results, Try.results49, go_sem, r0, r1]) rfl ?_
      exact ⟨HM9.out.set _ _, _, [], 3, 0, rfl, OwnB.nil_, HNN.out⟩
    | some o =>
      have HGO := Lib.hid (show TR.goR s forms (L.drop (k + 1)) o b = TT from hgo)
      have hoo : o.length ≤ o2.length ∨ o.length ≤ 1000 := HFL.out o rfl
      clear hgo
      go_region_held3 (fun w' => w'.cell? ⟨sb, 0, none⟩ = some (.slice As s.length cs) ∧ w'.cell? ⟨lb, 0, none⟩ = some (.slice (some ⟨nb, 0, none⟩) c.length c.length) ∧ w'.cell? ⟨nb, 0, none⟩ = some (.int .i64 (a : Int)))
        (first | go_keep | (go_split_ands; refine ⟨?_, ?_, ?_⟩ <;> assumption))
        (first
          | (go_at_call 84; go_loud (refine (HFIL.out lb _ _ HR8.out HO8.out).mono ?_); go_loud (rintro e w9 ⟨hR9, v9, rfl, ho9⟩; have HR9 := Lib.hid hR9; have k0 := hR9.1.cell HK0.out; have kl := samere_b (o := 0) hR9.2 rfl; have kn := hR9.1.cell HN0.out; obtain ⟨A9, c9, rfl, -⟩ := ho9.form; have HO9 := Lib.hid ho9; clear ho9; clear hR9))
          | (go_loud (refine step_appC rfl _ _ (by rfl) w6.heap.size (.slice Ao out.length co) _ out mid HOD.out (by rfl) (by rfl) HCD.out (by omega) HRD.out.1.size ?_; intro v8 w8 h1 h2; have hR8 := (HKP.out lb).own _ _ _ _ HRD.out HOD.out h2; rw [HO2.out] at h1; obtain ⟨A8, c8, rfl, -⟩ := h1.form; have HO8 := Lib.hid h1; have HR8 := Lib.hid hR8; have k0 := hR8.1.cell HK0.out; have kl := samere_b (o := 0) hR8.2 rfl; have kn := hR8.1.cell HN0.out; clear h1 h2 hR8)))
      have kl := samere_b (o := 0) HR9.out.2 rfl
      have kn1 := HR9.out.1.cell HN1.out
      go_wp2_with fail
      go_quiet (fail)
      go_wp2_with fail
      go_roundw
      case rel => exact ⟨k + 1, o, b, by omega, by go_num, rfl, HR9.out.1.drewN _, OwnB.drewN HO9.out, by omega, hbs, HNX.out, HGO.out⟩
      case measure => simp [intOf]; omega
end Go.Proofs.Ytfblkahjefdmaaa
