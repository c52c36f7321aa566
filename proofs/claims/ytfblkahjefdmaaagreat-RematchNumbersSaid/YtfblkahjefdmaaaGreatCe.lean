/- Plain law: the document's program of a pattern is package reprog's. No program in sight. -/
import Derived.Test.YtfblkahjefdmaaaGreatPureD
import Derived.Test.YtfblkahjefdmaaaGreatPc
import Derived.Test.YtfblkahjefdmaaaGreatCd
import Derived.Test.YtfblkahjefdmaaaGreatQk
namespace Go.Proofs.YtfblkahjefdmaaaGreat.PG
open RX (ReN)

/-- A pattern whose tree is small, or too long, or none. -/
def okp (s : List Int) : Bool := match RX.parse s with
  | (l, c, _) => c != 0 || decide (297 < lenT l.length l) || smallT l.length l
theorem parse_tree {s : List Int} {l : List ReN} {p : Int} (h : RX.parse s = (l, 0, p)) : Tree 0 l := by
  obtain ⟨b, hw, -⟩ := RX.parse_wf h
  have h1 := wf_tree hw (RX.parse_sms h) 0
  rwa [lift_zero] at h1
theorem compile_doc {s : List Int} {l : List ReN} {p : Int} (h : RX.parse s = (l, 0, p)) : (297 < lenT l.length l → compile s = ([], 3, (s.length : Int))) ∧ (lenT l.length l ≤ 297 → compile s = (iWhole l, 0, 0)) := by
  have hr := rel_whole l
  have hl := iWhole_len l
  rw [iTree_len] at hl
  have hn := hr.2.1
  unfold compile
  rw [h]
  dsimp only
  rw [if_pos rfl]
  refine ⟨fun hb => ?_, fun hb => ?_⟩
  · rw [if_pos (by omega)]
  · rw [if_neg (by omega), hr.2.2 (by omega)]
theorem compile_none {s : List Int} {l : List ReN} {c p : Int} (h : RX.parse s = (l, c, p)) (hc : c ≠ 0) : compile s = ([], c, p) := by
  unfold compile
  rw [h]
  dsimp only
  rw [if_neg hc]
theorem iWhole_cat (l : List ReN) : iWhole l = iS 0 ++ (iTree l.length l).map (moved 1) ++ [⟨3, 1, 0, false, []⟩, ⟨6, 0, 0, false, []⟩] := by
  unfold iWhole
  simp only [fl, iS, List.append_nil, List.append_assoc]
  rfl
end Go.Proofs.YtfblkahjefdmaaaGreat.PG

/- Walk: Compile of the document's own programs. -/
namespace Go.Proofs.YtfblkahjefdmaaaGreat
open Go.RowKit

/-- What the document's Compile returns. -/
def CompJ (s : List Int) (w : World) (e : Ending) (w' : World) : Prop :=
  Ext w w' ∧ ∃ v, e = .returned (.tuple #[v, .agg #[.int .i64 (PG.compile s).2.1, .int .i64 (PG.compile s).2.2]]) ∧ SlJ w.heap.size w' v (PG.compile s).1
/-- Behind a store into a block of another type. -/
theorem KeepT.off {fb : Nat} {w w' : World} {cs : Array Value} {tf : TypeId} {T : List TypeId} (hf : w.heap[fb]? = some (.cells cs tf (0, 0))) (hT : tf ∉ T) (hw : ∀ i, i ≠ fb → w'.heap[i]? = w.heap[i]?) : KeepT T w w' := by
  intro g cur t ht hg
  rw [hw g (by intro e; rw [e, hf] at hg; injection hg with h1; injection h1 with _ h1 _; exact hT (h1 ▸ ht))]
  exact hg
/-- A row of two instructions that is made in place. -/
theorem OwnJ.lit2 {B : Nat} {w : World} {i j : PG.Inst} {vs us : Value} (hs : SlB 21 1 Cc B w vs i.set) (hu : SlB 21 1 Cc B w us j.set) :
    OwnJ B w.heap.size (w.alloc (.cells #[.int .i64 i.op, .int .i64 i.x, .int .i64 i.y, .bool i.neg, vs, .int .i64 j.op, .int .i64 j.x, .int .i64 j.y, .bool j.neg, us] 72)) (.slice (some ⟨w.heap.size, 0, none⟩) 2 2) [i, j] := by
  refine OwnB.lit _ [i, j] w.heap.size 2 rfl rfl (Nat.le_refl _) (by simp) (by simp) ?_
  intro k y hy
  match k, hy with
  | 0, hy =>
    simp at hy; subst hy
    exact ⟨_, ⟨vs, rfl, SlB.keep hs (keeps_c []) (fun _ _ _ h => by cases h) (KeepT.of_ext ((Ext.refl w).alloc _))⟩, rfl, fun n u hu => by
      match n, hu with
      | 0, hu => exact hu
      | 1, hu => exact hu
      | 2, hu => exact hu
      | 3, hu => exact hu
      | 4, hu => exact hu
      | n + 5, hu => simp at hu⟩
  | 1, hy =>
    simp at hy; subst hy
    exact ⟨_, ⟨us, rfl, SlB.keep hu (keeps_c []) (fun _ _ _ h => by cases h) (KeepT.of_ext ((Ext.refl w).alloc _))⟩, rfl, fun n u hu => by
      match n, hu with
      | 0, hu => exact hu
      | 1, hu => exact hu
      | 2, hu => exact hu
      | 3, hu => exact hu
      | 4, hu => exact hu
      | n + 5, hu => simp at hu⟩
set_option maxRecDepth 100000 in
set_option maxHeartbeats 2000000 in
theorem rcompile_any (s : List Int) (v : Value) (w : World) (hv : SlC w v s) (hok : PG.okp s = true) : Calls Tryz.prog 21 #[v] w (CompJ s w) := by
  obtain ⟨A, c, rfl, hlc, hcm, -⟩ := id hv
  have HV := Lib.hid (fun w' (h : Ext w w') => qparse_any s _ w' (hv.ext h))
  obtain ⟨R, hR⟩ : ∃ R, RX.parse s = R := ⟨_, rfl⟩
  obtain ⟨l, code, bat⟩ := R
  have HR := Lib.hid hR
  have HOK := Lib.hid hok
  unfold CompJ
  obtain ⟨C, hC⟩ : ∃ C, PG.compile s = C := ⟨_, rfl⟩
  have HC := Lib.hid hC
  rw [hC]
  clear hv hC hR hok
  go_enter Tryz.func21, Tryz.ntmps21
  go_upto_region 2 with (go_at_call 22; go_loud (refine (HV.out _ ((Ext.refl w).alloc _)).mono ?_; rintro e w2 ⟨v2, u2, rfl, ⟨hv2, rfl⟩, hE2⟩; have HM2 := Lib.hid (show Cmr w w.heap.size w2 from ⟨((Ext.refl w).alloc _).trans hE2, Nat.le_refl _, hE2.heap (heap_alloc_new w _)⟩); rw [HR.out] at hv2 ⊢; dsimp only at hv2 ⊢; have HV2 := Lib.hid (SlRe.weak hv2 (show w.heap.size ≤ _ by simp)); have hv2f := hv2.form; clear hv2 hE2))
  obtain ⟨A2, c2, rfl, hlc2, hcm2⟩ := hv2f
  have HM3 := Lib.hid (HM2.out.ext_ ((Ext.refl w2).alloc (.cells #[.int .i64 code, .int .i64 bat] 31)))
  have HV3 := Lib.hid (SlB.keep HV2.out (keeps_re _) (KeepT.of_ext ((Ext.refl w2).alloc (.cells #[.int .i64 code, .int .i64 bat] 31))) (KeepT.of_ext ((Ext.refl w2).alloc (.cells #[.int .i64 code, .int .i64 bat] 31))))
  have q0 : (w2.alloc (.cells #[.int .i64 code, .int .i64 bat] 31)).cell? ⟨w2.heap.size, 0, none⟩ = some (.int .i64 code) := by rw [World.cell?_alloc_new]; rfl
  have q1 : (w2.alloc (.cells #[.int .i64 code, .int .i64 bat] 31)).cell? ⟨w2.heap.size, 1, none⟩ = some (.int .i64 bat) := by rw [World.cell?_alloc_new]; rfl
  have hne : w2.heap.size ≠ w.heap.size := by have := heap_lt HM2.out.flt; omega
  have r0 := HM3.out.r0
  have r1 := HM3.out.r1
  have f0 := HM3.out.fr 0
  have f1 := HM3.out.fr 1
  generalize w2.alloc _ = w3 at HM3 HV3 q0 q1 r0 r1 f0 f1 ⊢
  generalize hfb : w.heap.size = fb at HM3 hne r0 r1 f0 f1 ⊢
  generalize w2.heap.size = xb at q0 q1 hne ⊢
  have HFB := Lib.hid hfb
  clear hfb HM2 HV2
  by_cases hc : code = 0
  rotate_left
  · have hb : (code != 0) = true := by simpa using hc
    have HC1 := Lib.hid (show C = ([], code, bat) by rw [← HC.out, PG.compile_none HR.out hc])
    clear hc
    go_wp2_with fail
    go_region
    go_wp2_with fail
    refine bodyPost_ret (v := .tuple #[.slice none 0 0, .agg #[.int .i64 code, .int .i64 bat]]) (by simp [results, Tryz.results21, go_sem, r0, r1]) rfl ?_
    rw [HC1.out]
    exact ⟨((HM3.out.ext.set (p := ⟨fb, 0, none⟩) HM3.out.lof _).set (p := ⟨fb, 1, none⟩) HM3.out.lof _).drew, _, rfl, SlB.nil_⟩
  subst hc
  have hbat : bat = 0 := RX.parse_at HR.out
  subst hbat
  have htr := PG.parse_tree HR.out
  have hlen := (RX.parse_few HR.out).1
  have HTR := Lib.hid htr
  have HST := Lib.hid (show PG.Sits l 0 0 l from ⟨[], by simp, trivial⟩)
  obtain ⟨z, hz⟩ : ∃ z, PG.szT l.length l = z := ⟨_, rfl⟩
  obtain ⟨ln, hln⟩ : ∃ ln, PG.lenT l.length l = ln := ⟨_, rfl⟩
  have hcl := PG.sz_cl htr l.length (Nat.le_refl _)
  have hhi := PG.sz_hi htr l.length
  rw [hz] at hcl hhi
  rw [hln] at hcl
  obtain ⟨hz0, hzc⟩ := hcl
  have hlen2 : l.length ≤ 1000000 := by omega
  have HSZ := Lib.hid (fun w' (h : SlRe w.heap.size w.heap.size w' (.slice A2 l.length c2) l) => (show Calls Tryz.prog 38 #[.slice A2 l.length c2, .int .i64 0] w' (Ret (.int .i64 z) w') from by rw [← hz]; exact rsize_tree HTR.out l.length (Nat.le_refl _) _ l _ w' 0 h hlen2 HST.out))
  have HCO := Lib.hid (PG.compile_doc HR.out)
  rw [hln, HC.out] at HCO
  have HOK2 := Lib.hid (show ln ≤ 297 → PG.smallT l.length l = true by
    intro h
    have := HOK.out
    unfold PG.okp at this
    rw [HR.out] at this
    simp only [hln, show decide (297 < ln) = false by simp; omega] at this
    simpa using this)
  have HLN := Lib.hid hln
  have HZC := Lib.hid hzc
  clear hz hln htr hzc HOK
  go_upto_region 4 with fail
  by_cases hbig : 297 < ln
  · have hzb : 297 < z := by have := HZC.out; omega
    have hd : decide ((300 : Int) < z + 3) = true := by simp; omega
    have HC1 := Lib.hid (HCO.out.1 hbig)
    go_wp2_with (go_at_call 38; go_loud (refine (HSZ.out _ HV3.out).mono ?_; rintro e w4 ⟨rfl, hx4⟩; have HM4 := Lib.hid (HM3.out.ext_ hx4); have r0 := HM4.out.r0; have r1 := HM4.out.r1; have f0 := HM4.out.fr 0; have f1 := HM4.out.fr 1; clear hx4))
    refine bodyPost_ret (v := .tuple #[.slice none 0 0, .agg #[.int .i64 3, .int .i64 (s.length : Int)]]) (by simp [results, Tryz.results21, go_sem, r0, r1]) rfl ?_
    rw [HC1.out]
    exact ⟨(HM4.out.ext.set (p := ⟨fb, 0, none⟩) HM4.out.lof _).set (p := ⟨fb, 1, none⟩) HM4.out.lof _, _, rfl, SlB.nil_⟩
  have hzb : z ≤ 297 := by have := HZC.out; omega
  have hd : decide ((300 : Int) < z + 3) = false := by simp; omega
  have HC1 := Lib.hid (HCO.out.2 (by omega))
  obtain ⟨cd, hcd⟩ : ∃ cd, PG.iTree l.length l = cd := ⟨_, rfl⟩
  have hcdl : cd.length ≤ 297 := by rw [← hcd, PG.iTree_len, HLN.out]; omega
  have HTB := Lib.hid (show PG.Tb 1000000 cd by rw [← hcd]; refine (PG.tb_tree _ _).mono ?_; rw [hcd]; omega)
  have HCD := Lib.hid (fun w' (h : SlRe w.heap.size w.heap.size w' (.slice A2 l.length c2) l) => (show Calls Tryz.prog 40 #[.slice A2 l.length c2, .int .i64 0] w' (JR w.heap.size cd w') from by rw [← hcd]; exact rcode_tree HTR.out l.length (Nat.le_refl _) _ l _ w' 0 h hlen2 HST.out (HOK2.out (by omega))))
  obtain ⟨cm, hcm⟩ : ∃ cm, cd.map (PG.moved 1) = cm := ⟨_, rfl⟩
  have hcmm : cm.length ≤ 297 := by rw [← hcm, List.length_map]; exact hcdl
  have HIW := Lib.hid (show C = (([⟨3, 0, 0, false, []⟩] ++ cm) ++ [⟨3, 1, 0, false, []⟩, ⟨6, 0, 0, false, []⟩], 0, 0) by rw [HC1.out, PG.iWhole_cat, hcd, hcm]; rfl)
  have HSS := Lib.hid (fun w' base (A7 : Option Addr) (c7 : Nat) (h : SlB 72 5 (IcW w.heap.size) base w' (.slice A7 cd.length c7) cd) => rshift_any cd _ w' 1 h (by decide) (by decide) (by omega) HTB.out)
  rw [hcm] at HSS
  clear hcd hcm hbig
  go_upto_region 6 with (go_at_call 38; go_loud (refine (HSZ.out _ HV3.out).mono ?_; rintro e w4 ⟨rfl, hx4⟩; have HM4 := Lib.hid (HM3.out.ext_ hx4); have HV4 := Lib.hid (SlB.keep HV3.out (keeps_re _) (KeepT.of_ext hx4) (KeepT.of_ext hx4)); clear hx4))
  clear q0 q1 r0 r1 f0 f1
  go_upto_region 7 with fail
  have HX5 := Lib.hid (show Ext w4 (w4.alloc (.cells #[.int .i64 3, .int .i64 0, .int .i64 0, .bool false, .slice none 0 0] 72)) from (Ext.refl _).alloc _)
  have HL5 := Lib.hid (show Ly w.heap.size w4 (w4.alloc (.cells #[.int .i64 3, .int .i64 0, .int .i64 0, .bool false, .slice none 0 0] 72)) (.slice (some ⟨w4.heap.size, 0, none⟩) 1 1) [⟨3, 0, 0, false, []⟩] from ⟨HX5.out, OwnJ.lit (i := ⟨3, 0, 0, false, []⟩) SlB.nil_⟩)
  have HM5 := Lib.hid (HM4.out.ext_ HX5.out)
  have HV5 := Lib.hid (SlB.keep HV4.out (keeps_re _) (KeepT.of_ext HX5.out) (KeepT.of_ext HX5.out))
  obtain ⟨o5, ho5⟩ : ∃ o5 : List PG.Inst, [⟨3, 0, 0, false, []⟩] = o5 := ⟨_, rfl⟩
  have hl5 : o5.length ≤ 1 := by rw [← ho5]; exact Nat.le_refl _
  rw [ho5] at HL5 HIW
  generalize w4.alloc _ = w5 at HX5 HL5 HM5 HV5 ⊢
  clear ho5
  go_upto_region 8 with (first
    | (go_at_call 40; go_loud (refine (HCD.out _ HV5.out).mono ?_; rintro e w7 ⟨hx7, A7, c7, rfl, hs7⟩; have HS7 := Lib.hid hs7; have HX7 := Lib.hid hx7; have HL7 := Lib.hid (Ly.ext_ HL5.out hx7); clear hs7 hx7))
    | (go_at_call 39; go_loud (refine (HSS.out _ _ _ _ HS7.out).mono ?_; rintro e w8 ⟨hx8, A8, c8, rfl, hs8⟩; have HS8 := Lib.hid hs8; have HX8 := Lib.hid hx8; clear hs8 hx8))
    | (at_builtin; go_loud (refine app_rows Tryz.underlying45 info_inst rfl (by decide) (by decide) (keeps_icw w.heap.size) (by decide) icw_one rfl _ _ rfl w4.heap.size _ _ _ o5 cm (Ly.ext_ HL7.out HX8.out).own HS8.out rfl rfl (by omega) (Ly.ext_ HL7.out HX8.out).size ?_; intro v9 w9 h1 h2; obtain ⟨o9, ho9⟩ : ∃ z, o5 ++ cm = z := ⟨_, rfl⟩; rw [ho9] at h1; obtain ⟨A9, c9, rfl, -⟩ := h1.form; have HL9 := Lib.hid (Ly.app (Ly.ext_ HL7.out HX8.out) h1 h2); have hl9 : o9.length ≤ o5.length + cm.length := (by rw [← ho9]; simp); have HO9 := Lib.hid ho9; clear h1 h2 ho9)))
  have HM9 := Lib.hid (HM4.out.ext_ HL9.out.ext)
  have r0 := HM9.out.r0
  have r1 := HM9.out.r1
  have f0 := HM9.out.fr 0
  have f1 := HM9.out.fr 1
  have hfs := heap_lt HM9.out.flt
  have HFLT := Lib.hid HM9.out.flt
  have hol : o9.length ≤ 298 := by omega
  have HIW2 := Lib.hid (show C = (o9 ++ [⟨3, 1, 0, false, []⟩, ⟨6, 0, 0, false, []⟩], 0, 0) by rw [HIW.out, HO9.out])
  go_wp2_with (at_builtin; go_loud (refine app_rows Tryz.underlying45 info_inst rfl (by decide) (by decide) (keeps_icw w.heap.size) (by decide) icw_one rfl _ _ rfl w4.heap.size _ _ _ o9 [⟨3, 1, 0, false, []⟩, ⟨6, 0, 0, false, []⟩] (Ly.ext_ HL9.out ((Ext.refl _).alloc _)).own (OwnJ.lit2 (i := ⟨3, 1, 0, false, []⟩) (j := ⟨6, 0, 0, false, []⟩) SlB.nil_ SlB.nil_).sl rfl rfl (by simp; omega) (Ly.ext_ HL9.out ((Ext.refl _).alloc _)).size ?_; intro v6 w6 h1 h2; obtain ⟨o6, ho6⟩ : ∃ z, o9 ++ [⟨3, 1, 0, false, []⟩, ⟨6, 0, 0, false, []⟩] = z := ⟨_, rfl⟩; rw [ho6] at h1; obtain ⟨A6, c6, rfl, -⟩ := h1.form; have HL6 := Lib.hid (Ly.app (Ly.ext_ HL9.out ((Ext.refl _).alloc _)) h1 h2); have HO6 := Lib.hid ho6; have HM6 := Lib.hid (HM4.out.ext_ HL6.out.ext); have r0 := HM6.out.r0; have r1 := HM6.out.r1; have f0 := HM6.out.fr 0; have f1 := HM6.out.fr 1; clear h1 h2 ho6))
  refine bodyPost_ret (v := .tuple #[.slice A6 o6.length c6, .agg #[.int .i64 0, .int .i64 0]]) (by simp [results, Tryz.results21, go_sem, r0, r1]) rfl ?_
  have hC : C = (o6, 0, 0) := by rw [HIW2.out, HO6.out]
  rw [hC]
  have hoff : ∀ i, i ≠ fb → ((w6.setCell ⟨fb, 0, none⟩ (.int .i64 0)).setCell ⟨fb, 1, none⟩ (.int .i64 0)).heap[i]? = w6.heap[i]? := fun i hi => (heap_off hi).trans (heap_off hi)
  exact ⟨(HM6.out.ext.set (p := ⟨fb, 0, none⟩) HM6.out.lof _).set (p := ⟨fb, 1, none⟩) HM6.out.lof _, _, rfl,
    (HL6.out.own.slj HM4.out.ext.size).keep (keeps_icw _) (KeepT.off HM6.out.flt (by decide) hoff) (KeepT.off HM6.out.flt (by decide) hoff)⟩
end Go.Proofs.YtfblkahjefdmaaaGreat
