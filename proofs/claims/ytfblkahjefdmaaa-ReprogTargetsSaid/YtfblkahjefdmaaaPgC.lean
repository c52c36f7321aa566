/- Walk: Compile of package reprog. -/
import Derived.Test.YtfblkahjefdmaaaPgB
import Derived.Test.YtfblkahjefdmaaaMxF
import Derived.Test.YtfblkahjefdmaaaPar
import Derived.Deep.RegionHeld3
namespace Go.Proofs.Ytfblkahjefdmaaa
open Go.RowKit

/-- What Compile returns. -/
def CompP (s : List Int) (w : World) (e : Ending) (w' : World) : Prop :=
  Ext w w' ∧ ∃ v, e = .returned (.tuple #[v, .agg #[.int .i64 (PG.compile s).2.1, .int .i64 (PG.compile s).2.2]]) ∧ SlX w.heap.size w' v (PG.compile s).1
set_option maxRecDepth 100000 in
set_option maxHeartbeats 4000000 in
theorem pcompile_any (s : List Int) (v : Value) (w : World) (hv : SlC w v s) : Calls Try.prog 29 #[v] w (CompP s w) := by
  obtain ⟨A, c, rfl, hlc, hcm, -⟩ := id hv
  have HV := Lib.hid (fun w' (h : Ext w w') => parse_any s _ w' (hv.ext h))
  obtain ⟨R, hR⟩ : ∃ R, RX.parse s = R := ⟨_, rfl⟩
  obtain ⟨l, code, bat⟩ := R
  have HR := Lib.hid hR
  have hC : PG.compile s = (if code = 0 then (if 300 < (PG.whole l).n then ([], 3, (s.length : Int)) else ((PG.whole l).l, 0, 0)) else ([], code, bat)) := by unfold PG.compile; rw [hR]
  unfold CompP
  obtain ⟨C, hC'⟩ : ∃ C, PG.compile s = C := ⟨_, rfl⟩
  rw [hC'] at hC ⊢
  have HC := Lib.hid hC
  clear hv hC hC' hR
  go_enter Try.func29, Try.ntmps29
  go_upto_region 2 with (go_at_call 22; go_loud (refine (HV.out _ ((Ext.refl w).alloc _)).mono ?_; rintro e w2 ⟨v2, u2, rfl, ⟨hv2, rfl⟩, hE2⟩; have HM2 := Lib.hid (show Cmr w w.heap.size w2 from ⟨((Ext.refl w).alloc _).trans hE2, Nat.le_refl _, hE2.heap (heap_alloc_new w _)⟩); rw [HR.out] at hv2 ⊢; dsimp only at hv2 ⊢; have HV2 := Lib.hid hv2; have hv2f := hv2.form; clear hv2 hE2))
  obtain ⟨A2, c2, rfl, hlc2, hcm2⟩ := hv2f
  have HM3 := Lib.hid (HM2.out.ext_ ((Ext.refl w2).alloc (.cells #[.int .i64 code, .int .i64 bat] 36)))
  have HV3 := Lib.hid (SlB.keep HV2.out (keeps_re _) (KeepT.of_ext ((Ext.refl w2).alloc (.cells #[.int .i64 code, .int .i64 bat] 36))) (KeepT.of_ext ((Ext.refl w2).alloc (.cells #[.int .i64 code, .int .i64 bat] 36))))
  have q0 : (w2.alloc (.cells #[.int .i64 code, .int .i64 bat] 36)).cell? ⟨w2.heap.size, 0, none⟩ = some (.int .i64 code) := by rw [World.cell?_alloc_new]; rfl
  have q1 : (w2.alloc (.cells #[.int .i64 code, .int .i64 bat] 36)).cell? ⟨w2.heap.size, 1, none⟩ = some (.int .i64 bat) := by rw [World.cell?_alloc_new]; rfl
  have hne : w2.heap.size ≠ w.heap.size := by have := heap_lt HM2.out.flt; omega
  have r0 := HM3.out.r0
  have r1 := HM3.out.r1
  have f0 := HM3.out.fr 0
  have f1 := HM3.out.fr 1
  generalize w2.alloc _ = w3 at HM3 HV3 q0 q1 r0 r1 f0 f1 ⊢
  generalize hfb : w.heap.size = fb at HM3 hne r0 r1 f0 f1 ⊢
  generalize w2.heap.size = xb at q0 q1 hne ⊢
  have HFB := Lib.hid hfb
  clear hfb HM2 HV2
  by_cases hc : code = 0
  rotate_left
  · have hb : (code != 0) = true := by simpa using hc
    have HC1 := Lib.hid (show C = ([], code, bat) by rw [HC.out, if_neg hc])
    clear hc
    go_wp2_with fail
    go_region
    go_wp2_with fail
    refine bodyPost_ret (v := .tuple #[.slice none 0 0, .agg #[.int .i64 code, .int .i64 bat]]) (by simp [results, Try.results29, go_sem, r0, r1]) rfl ?_
    rw [HC1.out]
    exact ⟨((HM3.out.ext.set (p := ⟨fb, 0, none⟩) HM3.out.lof _).set (p := ⟨fb, 1, none⟩) HM3.out.lof _).drew, _, rfl, SlX.nil_⟩
  subst hc
  have hbat : bat = 0 := RX.parse_at HR.out
  subst hbat
  have HT := Lib.hid (fun w' (h : Ext w3 w') => (ptree_parse HR.out _ w' (SlRe.weak (SlB.keep HV3.out (keeps_re _) (KeepT.of_ext h) (KeepT.of_ext h)) (Nat.zero_le _))).1)
  obtain ⟨g9, -, hok⟩ := (ptree_parse HR.out _ w3 (SlRe.weak HV3.out (Nat.zero_le _))).2
  have HOK := Lib.hid hok
  have HWH := Lib.hid (fun h => PG.whole_made (l := l) (RX.parse_sms HR.out) hok h)
  obtain ⟨W, hW⟩ : ∃ W, PG.whole l = W := ⟨_, rfl⟩
  have HWW := Lib.hid (show PG.row [PG.save 0, PG.tree l.length l, PG.save 1, PG.one [⟨6, 0, 0, false, []⟩]] = W from hW)
  rw [hW] at HWH
  have HC1 := Lib.hid (show C = (if 300 < W.n then ([], 3, (s.length : Int)) else (W.l, 0, 0)) by rw [HC.out, if_pos rfl, hW])
  obtain ⟨p0, hp0⟩ : ∃ q, PG.save 0 = q := ⟨_, rfl⟩
  obtain ⟨p1, hp1⟩ : ∃ q, PG.tree l.length l = q := ⟨_, rfl⟩
  obtain ⟨p2, hp2⟩ : ∃ q, PG.save 1 = q := ⟨_, rfl⟩
  obtain ⟨p3, hp3⟩ : ∃ q, PG.one [⟨6, 0, 0, false, []⟩] = q := ⟨_, rfl⟩
  have HSA := Lib.hid (psave_any 0)
  have HSB := Lib.hid (psave_any 1)
  have HON := Lib.hid (fun v8 w8 (h : SlN (Nw w) w8 v8 [⟨6, 0, 0, false, []⟩]) => pone_any [⟨6, 0, 0, false, []⟩] v8 w8 h)
  have HRO := Lib.hid (rowable4 rok_save (Rok.of_ok hok) rok_save (⟨PG.one_fine (by simp), fun i hi => by simp [PG.one] at hi; subst hi; exact ⟨fun h => by simp at h, fun h => by simp at h⟩⟩ : Rok (PG.one [⟨6, 0, 0, false, []⟩])) (p := PG.save 0) (r := PG.save 1))
  rw [hp0] at HSA HRO HWW
  rw [hp1] at HT HRO HWW HWH
  rw [hp2] at HSB HRO HWW
  rw [hp3] at HON HRO HWW
  have HROW := Lib.hid (fun v w' (h : SlP (Nw w) w' v [p0, p1, p2, p3]) => prow_all [p0, p1, p2, p3] v w' h HRO.out)
  rw [HWW.out] at HROW
  have tok1 : True := trivial
  clear hok hW hp0 hp1 hp2 hp3 r0 r1 f0 f1
  go_upto_region 5 with (first
    | (go_at_call 67; go_loud (clear tok1; refine (HSA.out _).mono ?_; rintro e w4 ⟨hx4, A4, c4, rfl, hl4⟩; have HL4 := Lib.hid (hl4.new HM3.out.new); have HM4 := Lib.hid (HM3.out.ext_ hx4); have HX4 := Lib.hid hx4; clear hl4 hx4))
    | (go_at_call 68; go_loud (refine (HT.out _ HX4.out).mono ?_; rintro e w5 ⟨hx5, A5, c5, rfl, hl5⟩; have HL5 := Lib.hid (hl5.new HM4.out.new); have HM5 := Lib.hid (HM4.out.ext_ hx5); have HL45 := Lib.hid (HL4.out.ext hx5); clear hl5 hx5))
    | (go_at_call 67; go_loud (refine (HSB.out _).mono ?_; rintro e w6 ⟨hx6, A6, c6, rfl, hl6⟩; have HL6 := Lib.hid (hl6.new HM5.out.new); have HM6 := Lib.hid (HM5.out.ext_ hx6); have HL46 := Lib.hid (HL45.out.ext hx6); have HL56 := Lib.hid (HL5.out.ext hx6); clear hl6 hx6))
    | (go_at_call 69; go_loud (refine (HON.out _ _ (inst_lit5 6 0 0 false [] HM6.out.new (by simp) SlR.nil_)).mono ?_; rintro e w7 ⟨hx7, A7, c7, rfl, hl7⟩; have HL7 := Lib.hid hl7; have hy7 := ((Ext.refl w6).alloc (.cells #[.int .i64 6, .int .i64 0, .int .i64 0, .bool false, .slice none 0 0] 53)).trans hx7; have HM7 := Lib.hid (HM6.out.ext_ hy7); have HL47 := Lib.hid (HL46.out.ext hy7); have HL57 := Lib.hid (HL56.out.ext hy7); have HL67 := Lib.hid (HL6.out.ext hy7); clear hl7 hx7 hy7))
    | (go_at_call 66; go_loud (refine (HROW.out _ _ (parts4 (t := 103) (g := w7.heap.size) rfl HL47.out HL57.out HL67.out HL7.out)).mono ?_; rintro e w8 ⟨⟨hx8, A8, c8, rfl, hl8⟩, hty⟩; have HL8 := Lib.hid hl8; have HM8 := Lib.hid (HM7.out.ext_ (((Ext.refl w7).alloc _).trans hx8)); have HTY := Lib.hid hty; have HSZ := Lib.hid HM7.out.ext.size; have hl8f := hl8.form; clear hl8 hx8 hty)))
  by_cases hn : 300 < W.n
  · have hd : decide ((300 : Int) < (W.n : Int)) = true := by simp; omega
    have HC2 := Lib.hid (show C = ([], 3, (s.length : Int)) by rw [HC1.out, if_pos hn])
    have HM9 := Lib.hid (HM8.out.ext_ ((Ext.refl w8).alloc (.cells #[.slice A8 W.l.length c8, .int .i64 (W.n : Int)] 103)))
    have r0 := HM9.out.r0
    have r1 := HM9.out.r1
    have f0 := HM9.out.fr 0
    have f1 := HM9.out.fr 1
    have b1 : (w8.alloc (.cells #[.slice A8 W.l.length c8, .int .i64 (W.n : Int)] 103)).cell? ⟨w8.heap.size, 1, none⟩ = some (.int .i64 (W.n : Int)) := by rw [World.cell?_alloc_new]; rfl
    generalize w8.alloc _ = w9 at HM9 r0 r1 f0 f1 b1 ⊢
    clear hn
    go_wp2_with fail
    refine bodyPost_ret (v := .tuple #[.slice none 0 0, .agg #[.int .i64 3, .int .i64 (s.length : Int)]]) (by simp [results, Try.results29, go_sem, r0, r1]) rfl ?_
    rw [HC2.out]
    exact ⟨(HM9.out.ext.set (p := ⟨fb, 0, none⟩) HM9.out.lof _).set (p := ⟨fb, 1, none⟩) HM9.out.lof _, _, rfl, SlX.nil_⟩
  have hd : decide ((300 : Int) < (W.n : Int)) = false := by simp; omega
  have HC2 := Lib.hid (show C = (W.l, 0, 0) by rw [HC1.out, if_neg hn])
  have hwl := HWH.out (by omega)
  have hlen : 0 < W.l.length := by rw [hwl.2.2.2]; simp
  have hlen3 : W.l.length ≤ 300 := by have := hwl.1.len; have := hwl.1.le; omega
  obtain ⟨Ax, cx, hAx, hlx, hcx⟩ := hl8f
  injection hAx with e1 _ e3
  subst e1 e3
  cases A8 with
  | none =>
    obtain ⟨g, o, cs, hA, -⟩ := HL8.out.atN (k := 0) hlen
    cases hA
  | some ad =>
  obtain ⟨hty1, cur, hty2⟩ := HTY.out ad _ _ _ rfl
  obtain ⟨g, o, cs0, hA, -, -⟩ := HL8.out.atN (k := 0) hlen
  injection hA with hA
  subst hA
  have hge : w.heap.size ≤ g := by have := HSZ.out; have h : (w7.alloc _).heap.size ≤ g := hty1; simp at h; omega
  have HQ := Lib.hid (show Cmq w fb w8.heap.size g o c8 (W.n : Int) W.l 0 (w8.alloc (.cells #[.slice (some ⟨g, o, none⟩) W.l.length c8, .int .i64 (W.n : Int)] 103)) from by
    have hx := (Ext.refl w8).alloc (.cells #[.slice (some ⟨g, o, none⟩) W.l.length c8, .int .i64 (W.n : Int)] 103)
    refine ⟨HM8.out.ext.trans hx, hx.heap HM8.out.flt, heap_alloc_new w8 _, HM8.out.lof, hge, ⟨hlx, hcx⟩, ⟨cur, hx.heap hty2⟩, fun j x hj => ?_⟩
    obtain ⟨hjl, hj⟩ := List.getElem?_eq_some_iff.1 hj
    subst hj
    obtain ⟨g2, o2, cs, hA, ⟨vs, rfl, hvs⟩, hcell⟩ := HL8.out.atN (k := j) hjl
    injection hA with hA
    injection hA with h1 h2
    subst h1 h2
    exact ⟨vs, fun i u hu => hx.cell (hcell i u hu), hvs.keep hx.keepS, fun h => by omega⟩)
  have HSM := Lib.hid hwl.2.1
  clear hty1 hty2 hge hwl hn HL4 HL5 HL6 HL7 HL45 HL46 HL56 HL47 HL57 HL67 HL8 HTY HSZ HC1 HROW HRO HSA HSB HON HT HOK HWH HWW
  have b0 := HQ.out.b0
  have b1 : (w8.alloc (.cells #[.slice (some ⟨g, o, none⟩) W.l.length c8, .int .i64 (W.n : Int)] 103)).cell? ⟨w8.heap.size, 1, none⟩ = some (.int .i64 (W.n : Int)) := by rw [World.cell?_alloc_new]; rfl
  generalize w8.alloc _ = w9 at HQ b0 b1 ⊢
  generalize w8.heap.size = pb at HQ b0 b1 ⊢
  generalize W.n = wn at HQ b1 hd ⊢
  generalize W.l = il at HQ b0 HC2 hlen hlen3 hlx HSM ⊢
  go_wp2_with fail
  go_loopw [36] (fun x wr => ∃ k : Nat, k ≤ il.length ∧ x = .int .i64 (k : Int) ∧ Cmq w fb pb g o c8 (wn : Int) il k wr) (fun x _ => il.length - (intOf x).toNat)
  case atStart => exact ⟨0, Nat.zero_le _, rfl, HQ.out⟩
  case round =>
    obtain ⟨k, hk, rfl, hq⟩ := hrel
    have HQ := Lib.hid hq
    have b0 := hq.b0
    have r0 := hq.r0
    have r1 := hq.r1
    have f0 := hq.fr 0
    have f1 := hq.fr 1
    have hpg := hq.hpg
    have hgl := hq.hgl
    have hpf : pb ≠ fb := by intro e; have h1 := hq.box; rw [e, hq.flt] at h1; injection h1 with h1; injection h1 with _ h1 _; exact absurd h1 (by decide)
    by_cases hlt : k < il.length
    rotate_left
    · clear hq
      go_wp2_with fail
      refine bodyPost_ret (v := .tuple #[.slice (some ⟨g, o, none⟩) il.length c8, .agg #[.int .i64 0, .int .i64 0]]) (by simp [results, Try.results29, go_sem, r0, r1]) rfl ?_
      rw [HC2.out]
      exact ⟨(HQ.out.ext.set (p := ⟨fb, 0, none⟩) HQ.out.lof _).set (p := ⟨fb, 1, none⟩) HQ.out.lof _, _, rfl, (HQ.out.done (by omega)).off HQ.out.flt (fun _ hi => (heap_off hi).trans (heap_off hi))⟩
    obtain ⟨vs, hcell, hvs, -⟩ := hq.els k _ (List.getElem?_eq_getElem hlt)
    have hsm : il[k].set.length ≤ 1000000 := Nat.le_trans (HSM.out _ (List.getElem_mem hlt)) (by decide)
    obtain ⟨i, hi⟩ : ∃ i, il[k] = i := ⟨_, rfl⟩
    rw [hi] at hcell hvs hsm
    have HI := Lib.hid hi
    obtain ⟨As, cs, rfl, -⟩ := id hvs
    have HVS := Lib.hid hvs
    have e0 : wr.cell? ⟨g, o + k * 5, none⟩ = _ := hcell 0 _ rfl
    have e1 := hcell 1 _ rfl
    have e2 := hcell 2 _ rfl
    have e3 := hcell 3 _ rfl
    have e4 := hcell 4 _ rfl
    clear hcell hvs hi hq
    go_upto_region 10 with fail
    have HQ3 := Lib.hid (HQ.out.ext_ ((Ext.refl _).alloc (.cells #[.int .i64 i.op, .int .i64 i.x, .int .i64 i.y, .bool i.neg, .slice As i.set.length cs] 53)))
    have HVS3 := Lib.hid (SlCS.keep HVS.out ((Ext.refl _).alloc (.cells #[.int .i64 i.op, .int .i64 i.x, .int .i64 i.y, .bool i.neg, .slice As i.set.length cs] 53)).keepS)
    have hn0 := heap_alloc_new wr (.cells #[.int .i64 i.op, .int .i64 i.x, .int .i64 i.y, .bool i.neg, .slice As i.set.length cs] 53)
    have e4 := ((Ext.refl wr).alloc (.cells #[.int .i64 i.op, .int .i64 i.x, .int .i64 i.y, .bool i.neg, .slice As i.set.length cs] 53)).cell e4
    clear b0 r0 r1 f0 f1 e0 e1 e2 e3 HQ HVS
    generalize wr.alloc (.cells #[.int .i64 i.op, .int .i64 i.x, .int .i64 i.y, .bool i.neg, .slice As i.set.length cs] 53) = w3 at HQ3 HVS3 hn0 e4 ⊢
    have hgn : g ≠ wr.heap.size := Nat.ne_of_lt hgl
    have hng : wr.heap.size ≠ g := hgn.symm
    have hgp : g ≠ pb := hpg.symm
    generalize wr.heap.size = nb at hn0 hgn hng ⊢
    have b0 := HQ3.out.b0
    have x4 := cell_of_row w3 nb 4 _ _ _ hn0
    have x4 : w3.cell? ⟨nb, 4, none⟩ = some (.slice As i.set.length cs) := x4
    clear hn0
    go_region_held3 (fun w' => w'.cell? ⟨pb, 0, none⟩ = some (.slice (some ⟨g, o, none⟩) il.length c8) ∧ w'.cell? ⟨nb, 4, none⟩ = some (.slice As i.set.length cs))
      (first | go_keep | (go_split_ands; refine ⟨?_, ?_⟩ <;> (refine Ext.cell (by assumption) ?_; assumption)) | (go_split_ands; refine ⟨?_, ?_⟩ <;> (rw [cell_heap (heap_off (by assumption))]; assumption)))
      (go_loud (refine step_setA (S := Nw w) rfl _ _ (by rfl) _ i.set (SlCS.keep HVS3.out ((Ext.refl _).drew).keepS) hsm (by rfl) (by rfl) ?_; intro A5 c5 w5 h5 hx5; have HS5 := Lib.hid (SlB.weaken h5 (show w.heap.size ≤ _ from HQ3.out.ext.size)); have HQ5 := Lib.hid (HQ3.out.ext_ (((Ext.refl _).drew).trans hx5)); have e5 := hx5.cell e4; have f5 := HQ5.out.fg (o + k * 5 + 4); clear h5))
    have HQ6 := Lib.hid (HQ5.out.put hlt (by rw [HI.out]; exact HS5.out))
    go_wp2_with fail
    go_roundw
    case rel => exact ⟨k + 1, by omega, by go_num, HQ6.out⟩
    case measure => simp [intOf]; omega
end Go.Proofs.Ytfblkahjefdmaaa
