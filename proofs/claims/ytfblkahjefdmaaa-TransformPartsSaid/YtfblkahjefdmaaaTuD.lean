/- Walk: the law TransformParts. -/
import Derived.Test.YtfblkahjefdmaaaTuC
namespace Go.Proofs.Ytfblkahjefdmaaa
open Go.RowKit

theorem snoc_all {w : World} {s r : List Int} {us : List Value} {u : Value} {i : Nat} (h : ∀ (k : Nat) (y : Value), us[k]? = some y → SlC w y (TR.cut s r (k : Int))) (hl : us.length = i) (hu : SlC w u (TR.cut s r (i : Int))) :
    ∀ (k : Nat) (y : Value), (us ++ [u])[k]? = some y → SlC w y (TR.cut s r (k : Int)) := by
  intro k y hy
  rcases Nat.lt_or_ge k us.length with hlt | hge
  · rw [List.getElem?_append_left hlt] at hy
    exact h k y hy
  · rw [List.getElem?_append_right hge] at hy
    have hk : k - us.length = 0 := by
      rcases Nat.eq_zero_or_pos (k - us.length) with e | e
      · exact e
      · rw [List.getElem?_eq_none (by simp; omega)] at hy; cases hy
    rw [hk] at hy
    simp at hy
    subst hy
    have : k = i := by omega
    rw [this]; exact hu
set_option maxRecDepth 100000 in
set_option maxHeartbeats 4000000 in
theorem transformParts_any (ts : List Int) (v : Value) (fold : Bool) (w : World) (hv : SlI w v ts) : Calls Try.prog 14 #[v, .bool fold] w (Ret (.bool true) w) := by
  obtain ⟨A, c, rfl, hlc, hcm, _⟩ := id hv
  have he0 : Ten w w.heap.size (.slice A ts.length c) ts (w.alloc (.cells #[.slice A ts.length c, .int .i64 0] 26)) 0 :=
    ⟨hv, Nat.le_refl _, (Ext.refl w).alloc _, heap_alloc_new w _, Nat.zero_le _⟩
  have HMA := Lib.hid (made12_any _ _ he0)
  have HE0 := Lib.hid he0
  have HK := Lib.hid known12_any
  clear he0 hv
  go_enter Try.func14, Try.ntmps14
  go_wp2_with fail
  refine HMA.out.mono ?_
  rintro e w1 ⟨p, l, vp, vl, j1, rfl, hp1, hl1, hr1, ho1, hj1, htot, hmay, hlcnt⟩
  have hT1 := HE0.out.step ho1 hr1 hj1
  have HT1 := Lib.hid hT1
  have HP1 := Lib.hid hp1
  have HL1 := Lib.hid hl1
  have HMY := Lib.hid (And.intro hmay htot)
  obtain ⟨Ap, cp, rfl, -⟩ := hp1.form
  obtain ⟨Al, cl, rfl, -⟩ := hl1.form
  clear hT1 hp1 hl1 hr1 ho1 hj1 hmay htot HMA HE0
  go_wp2_with fail
  refine (ttext2_any 20 (by omega) w1 j1 HT1.out).mono ?_
  rintro e w2 ⟨v2, j2, rfl, ⟨s, hsl, hsg, hsv⟩, hr2, ho2, hj2⟩
  have HE2 := Lib.hid (HT1.out.step ho2 hr2 hj2).ext
  have HP2 := Lib.hid (SlB.slc (SlB.keep HP1.out (keeps_c []) (ho2.keepT HT1.out.st (by decide)) (ho2.keepT HT1.out.st (by decide))))
  have HL2 := Lib.hid (SlB.slf (HL1.out.keep (T := [21]) (fun _ _ _ _ hk hc => CF.keepT hc hk) (ho2.keepT HT1.out.st (by decide)) (ho2.keepT HT1.out.st (by decide))))
  have HS2 := Lib.hid (SlB.slc hsv)
  have HSG := Lib.hid hsg
  obtain ⟨As, cs, rfl, hscap, -⟩ := hsv.form
  clear hsg hsv hr2 ho2 hj2 HT1 HP1 HL1
  go_wp2_with fail
  refine (mnew_any p fold _ _ HP2.out).mono ?_
  rintro e w3 ⟨hE3, hnew⟩
  rcases hnew with ⟨hc0, rfl⟩ | ⟨pl, t, k, mb, vq, hcm, hpt, hmd, hst, hgl, rfl, hmt, -, -⟩
  · obtain ⟨R, hR⟩ : ∃ R, PG.compile p = R := ⟨_, rfl⟩
    rw [hR] at hc0 ⊢
    obtain ⟨pl, code, bat⟩ := R
    dsimp only at hc0 ⊢
    have hb : (code != 0) = true := by simpa using hc0
    have HX3 := Lib.hid (HE2.out.trans (hE3.alloc (.cells #[.int .i64 code, .int .i64 bat] 36)))
    have f0 : (w3.alloc (.cells #[.int .i64 code, .int .i64 bat] 36)).cell? ⟨w3.heap.size, 0, none⟩ = some (.int .i64 code) := by rw [World.cell?_alloc_new]; rfl
    clear hE3 hR hc0
    go_upto_region 5 with fail
    generalize w3.alloc _ = w4 at f0 HX3 ⊢
    generalize w3.heap.size = fb at f0 ⊢
    go_wp2_with (go_at_call 47; go_loud (refine (HK.out _).mono ?_; rintro e w7 ⟨rfl, hE7⟩))
    go_ret
    exact ⟨rfl, HX3.out.trans hE7⟩
  have hx3 := hE3.alloc (.cells #[.int .i64 0, .int .i64 0] 36)
  have HX3 := Lib.hid (HE2.out.trans hx3)
  have f0 : (w3.alloc (.cells #[.int .i64 0, .int .i64 0] 36)).cell? ⟨w3.heap.size, 0, none⟩ = some (.int .i64 0) := by rw [World.cell?_alloc_new]; rfl
  have HM3 := Lib.hid (hmt.ext ((Ext.refl w3).alloc (.cells #[.int .i64 0, .int .i64 0] 36)))
  have HP3 := Lib.hid (SlC.ext HP2.out hx3)
  have HS3 := Lib.hid (SlC.ext HS2.out hx3)
  have HL3 := Lib.hid (SlF.ext HL2.out hx3)
  have HMD := Lib.hid hmd
  have HST := Lib.hid hst
  have HCM := Lib.hid hcm
  have HPT := Lib.hid hpt
  clear hE3 hx3 hmt hmd hst hcm hpt HP2 HS2 HL2 HE2
  go_upto_region 5 with fail
  generalize w3.alloc _ = w4 at f0 HX3 HM3 HP3 HS3 HL3 ⊢
  generalize w3.heap.size = fb at f0 ⊢
  go_wp2_with fail
  refine (mfind_any HMD.out HST.out hgl HM3.out HS3.out (by omega) 0 (Nat.zero_le _)).mono ?_
  rintro e w6 ⟨hE6, r, hf, hre⟩
  have HX6 := Lib.hid (HX3.out.trans hE6)
  have HS6 := Lib.hid (SlC.ext HS3.out hE6)
  have HP6 := Lib.hid (SlC.ext HP3.out hE6)
  have HL6 := Lib.hid (SlF.ext HL3.out hE6)
  have HF := Lib.hid hf
  clear hE6 HX3 HM3 HP3 HS3 HL3 f0
  cases r with
  | none =>
    obtain rfl := hre
    go_wp2_with (go_at_call 47; go_loud (refine (HK.out _).mono ?_; rintro e wa ⟨rfl, hEa⟩))
    go_ret
    exact ⟨rfl, HX6.out.trans hEa⟩
  | some r =>
    obtain ⟨v6, rfl, nb, rfl, -, hh6⟩ := hre
    obtain ⟨p0, -, -, hmt, -⟩ := MX.first_match HMD.out hf
    obtain ⟨b0, hb0, hb1, hb2, hin⟩ := hmt.last
    have hlen := hmt.len
    have hrl : 2 ≤ r.length := by omega
    have hrm : r.length ≤ 402 := by omega
    have hpar : r.length % 2 = 0 := by omega
    have HH6 := Lib.hid hh6
    have HIN := Lib.hid hin
    have HC01 := Lib.hid (And.intro hmt.first hb0)
    have d1 : decide ((r.length : Int) < 2) = false := by simp; omega
    clear hmt hin hlen hb0 hf hh6
    go_upto_region 11 with fail
    go_wp2_with fail
    go_loopw [13, 14] (fun x13 x14 wr => ∃ (i : Nat) (us : List Value), x14 = .int .i64 (2 * i : Nat) ∧ us.length = i ∧ 2 * i ≤ r.length ∧ Ext w6 wr ∧ OwnB 23 1 RawV w6.heap.size wr x13 us ∧ ∀ (k : Nat) (u : Value), us[k]? = some u → SlC w6 u (TR.cut s r (k : Int))) (fun _ x14 _ => r.length + 2 - (intOf x14).toNat)
    case atStart => exact ⟨0, [], rfl, rfl, by omega, Ext.refl _, OwnB.nil_, by intro k u h; simp at h⟩
    case round =>
      obtain ⟨i, us, rfl, hul, hi, hx, hown, hus⟩ := hrel
      have HX := Lib.hid hx
      have HO := Lib.hid hown
      have HU := Lib.hid hus
      have HUL := Lib.hid hul
      have hul2 : us.length ≤ 300 := by omega
      obtain ⟨Ao, co, rfl, -⟩ := hown.form
      obtain ⟨i0, hi0⟩ : ∃ i0, 2 * i = i0 := ⟨_, rfl⟩
      have HI0 := Lib.hid hi0
      rw [hi0] at hi
      have t1 : IntKind.i64.wrap ((i0 : Int) + 1) = ((i0 + 1 : Nat) : Int) := by rw [IntWalk.i64_in _ (by omega)]; omega
      have t2 : IntKind.i64.wrap ((i0 : Int) + 2) = ((i0 + 2 : Nat) : Int) := by rw [IntWalk.i64_in _ (by omega)]; omega
      have hev : i0 % 2 = 0 := by omega
      rw [hi0]
      clear hx hown hus hul hi0
      by_cases hlt : i0 + 1 < r.length
      rotate_left
      · have hd : decide (((i0 + 1 : Nat) : Int) < (r.length : Int)) = false := by simp; omega
        have HGS := Lib.hid (show SlG wr (.slice Ao us.length co) (TR.cuts s r i) from OwnB.slgV HO.out (by rw [HUL.out]; simp [TR.cuts]) (fun k u g hu hg => by
          have h9 := (HU.out k u hu).ext HX.out
          simp only [TR.cuts, List.getElem?_map, Option.map_eq_some_iff] at hg
          obtain ⟨k', hk', rfl⟩ := hg
          obtain ⟨h10, h11⟩ := List.getElem?_eq_some_iff.1 hk'
          rw [List.getElem_range] at h11
          subst h11
          exact h9))
        have hgrp : TR.grp (TR.cuts s r i) = TR.cut s r := TR.grp_cuts_all (by have := HI0.out; omega)
        have hft := TR.fill_total (G := TR.cut s r) (fun k => Nat.le_trans (TR.cut_len s r k) hsl) l
        have hfl : (TR.fillL l (TR.cut s r)).length ≤ 620 := by have := HMY.out.2; omega
        have HFI := Lib.hid (fun W (hW : Ext wr W) => tfill_any l _ (TR.cuts s r i) _ W (SlF.ext HL6.out (HX.out.trans hW)) (SlG.ext HGS.out hW) (fun g hg => Nat.le_trans (TR.cuts_len g hg) (by omega)) (by rw [hgrp]; omega))
        rw [hgrp, if_pos HMY.out.1] at HFI
        have HRF := Lib.hid (fun text code bat (h : TR.RunQ s p l false fold text code bat) => TR.run_first HSG.out (by omega) HMY.out.1 HCM.out HPT.out HF.out HC01.out.1 HC01.out.2 (by omega) h)
        generalize TR.fillL l (TR.cut s r) = FL at HFI HRF hfl
        have e0 := cell_note (HX.out.heap HH6.out) HC01.out.1
        have e1 := cell_note (HX.out.heap HH6.out) HC01.out.2
        have r0 : (0 : Int) < (r.length : Int) := by omega
        have r1 : (1 : Int) < (r.length : Int) := by omega
        have r0n : 0 < r.length := by omega
        have r1n : 1 < r.length := by omega
        obtain ⟨x, hx⟩ : ∃ x, (b0 : Int) - (p0 : Int) = x := ⟨_, rfl⟩
        have s1 : IntKind.i64.wrap ((b0 : Int) - (p0 : Int)) = x := by rw [IntWalk.i64_in _ (by omega), hx]
        have HXE := Lib.hid hx
        have HBB := Lib.hid (And.intro hb1 hb2)
        obtain ⟨R, hR⟩ : ∃ R, (s.take p0 ++ FL) ++ s.drop b0 = R := ⟨_, rfl⟩
        have HRS := Lib.hid (fun vv W (hW : Ext wr W) (hv : SlC W vv FL) => rsplice_any s FL p0 b0 x (.slice As s.length cs) vv W (SlC.ext HS6.out (HX.out.trans hW)) hv HBB.out.1 HBB.out.2 HXE.out (by omega))
        rw [hR] at HRS HRF
        clear hx hgrp hft hfl HGS hb1 hb2 hR hi t2 HU HO HUL
        go_wp2_with fail
        go_region_held3 (fun w' => w'.cell? ⟨nb, 0, none⟩ = some (.int .i64 (p0 : Int)) ∧ w'.cell? ⟨nb, 1, none⟩ = some (.int .i64 (b0 : Int)))
          (first | go_keep | (go_split_ands; refine ⟨?_, ?_⟩ <;> assumption))
          (first
            | (go_at_call 44; go_loud (refine (HFI.out _ (by first | exact Ext.refl _ | exact (Ext.refl _).drewN _ | exact (Ext.refl _).drew)).mono ?_); go_loud (rintro e w8 ⟨v8, rfl, ho8, hx8⟩; have HX8 := Lib.hid (Ext.trans (show Ext wr _ by first | exact Ext.refl _ | exact (Ext.refl _).drewN _ | exact (Ext.refl _).drew) hx8); have HV8 := Lib.hid (SlB.slc ho8.sl); obtain ⟨A8, c8, rfl, -⟩ := ho8.form; have e0 := HX8.out.cell e0; have e1 := HX8.out.cell e1; clear ho8 hx8))
            | (go_at_call 50; go_loud (refine (HRS.out _ _ HX8.out HV8.out).mono ?_); go_loud (rintro e w9 ⟨v9, rfl, ho9, hx9⟩; have HX9 := Lib.hid (HX8.out.trans hx9); have HV9 := Lib.hid (SlB.slc ho9.sl); obtain ⟨A9, c9, rfl, -⟩ := ho9.form; have e0 := hx9.cell e0; have e1 := hx9.cell e1; clear ho9 hx9)))
        go_wp2_with fail
        refine (trun_any s p l _ _ _ false fold _ (SlC.ext HS6.out (HX.out.trans HX9.out)) (SlC.ext HP6.out (HX.out.trans HX9.out)) (SlF.ext HL6.out (HX.out.trans HX9.out))).mono ?_
        rintro e wa ⟨hEa, va, text, code, bat, rfl, hoa, hqa⟩
        obtain ⟨f1, f2, f3⟩ := HRF.out _ _ _ hqa
        subst f1 f2 f3
        have fa : (wa.alloc (.cells #[.int .i64 0, .int .i64 0] 36)).cell? ⟨wa.heap.size, 0, none⟩ = some (.int .i64 0) := by rw [World.cell?_alloc_new]; rfl
        have hya := hEa.alloc (.cells #[.int .i64 0, .int .i64 0] 36)
        have HVa := Lib.hid (SlC.ext (SlB.slc hoa.sl) ((Ext.refl wa).alloc (.cells #[.int .i64 0, .int .i64 0] 36)))
        have HVb := Lib.hid (SlC.ext HV9.out hya)
        have HXa := Lib.hid (HX9.out.trans hya)
        obtain ⟨Aa, ca, rfl, -⟩ := hoa.form
        clear hEa hoa hqa hya
        go_upto_region 20 with fail
        generalize wa.alloc _ = wb at fa HVa HVb HXa ⊢
        generalize wa.heap.size = fb3 at fa ⊢
        go_wp2_with (first
          | (go_at_call 38; go_loud (refine (same_any _ _ text text _ HVa.out HVb.out).mono ?_; rw [decide_eq_true rfl]; rintro e wc ⟨rfl, hEc⟩; have HXc := Lib.hid (HXa.out.trans hEc); clear hEc))
          | (go_at_call 47; go_loud (refine (HK.out _).mono ?_; rintro e wd ⟨rfl, hEd⟩; have HXd := Lib.hid (HXc.out.trans hEd); clear hEd)))
        go_ret
        exact ⟨rfl, HX6.out.trans (HX.out.trans HXd.out)⟩
      obtain ⟨i1, hi1⟩ : ∃ i1, i0 + 1 = i1 := ⟨_, rfl⟩
      have hd : decide ((i1 : Int) < (r.length : Int)) = true := by simp; omega
      have hn0 : (i0 : Int) < (r.length : Int) := by omega
      have hn1 : (i1 : Int) < (r.length : Int) := by omega
      obtain ⟨u, hu⟩ : ∃ u, r[i0]? = some u := ⟨_, List.getElem?_eq_getElem (by omega)⟩
      obtain ⟨v, hv⟩ : ∃ v, r[i1]? = some v := ⟨_, List.getElem?_eq_getElem (by omega)⟩
      have e2 := cell_note (HX.out.heap HH6.out) hu
      have e3 := cell_note (HX.out.heap HH6.out) hv
      have hcut : TR.cut s r (i : Int) = if 0 ≤ u ∧ u ≤ v then (s.drop u.toNat).take (v.toNat - u.toNat) else [] := by
        unfold TR.cut
        rw [Int.toNat_natCast, HI0.out, hi1, hu, hv]
      have hvb : v = -1 ∨ (0 ≤ v ∧ v ≤ s.length) := by
        have := HIN.out i1 v hv
        omega
      have hub : u = -1 ∨ 0 ≤ u := by
        have := HIN.out i0 u hu
        omega
      have HCUT := Lib.hid hcut
      have ht2 : 2 * (i + 1) = i0 + 2 := by have := HI0.out; omega
      have HT2 := Lib.hid ht2
      have hi2 : i0 + 2 ≤ r.length := by omega
      rw [hi1] at t1 hlt
      clear hu hv hcut hi1 ht2
      by_cases hu0 : 0 ≤ u
      · have a1 : decide ((0 : Int) ≤ u) = true := decide_eq_true hu0
        by_cases huv : u ≤ v
        · have a2 : decide (u ≤ v) = true := decide_eq_true huv
          have hvs : v ≤ (s.length : Int) := by omega
          have a3 : decide (v ≤ (s.length : Int)) = true := decide_eq_true hvs
          obtain ⟨a, rfl⟩ : ∃ a : Nat, u = a := ⟨u.toNat, by omega⟩
          obtain ⟨b, rfl⟩ : ∃ b : Nat, v = b := ⟨v.toNat, by omega⟩
          have a2' : decide (a ≤ b) = true := decide_eq_true (by omega)
          have a3' : decide (b ≤ s.length) = true := decide_eq_true (by omega)
          obtain ⟨j0, hj0, hz0, hz1, hz2⟩ := info_parts info_c
          have hsb := fun W => run_sl_both (P := Try.prog) Try.underlying23 hj0 As (n := s.length) (c := cs) (k := a) (m := b) (by omega) (by omega) W
          rw [hz1] at hsb
          have HNEW := Lib.hid (show SlC w6 (.slice (cutA As cs a 1) (b - a) (cs - a)) (TR.cut s r (i : Int)) by
            rw [HCUT.out, if_pos ⟨by omega, huv⟩, Int.toNat_natCast, Int.toNat_natCast]
            exact SlR.cut3 HS6.out (by omega) (by omega))
          clear hj0 hz0 hz1 hz2 huv hvs hvb hub hu0
          go_wp2_with fail
          go_quiet (fail)
          go_wp2_with fail
          go_quiet (fail)
          go_wp2_with (at_builtin; go_loud (refine app_one Try.underlying71 info_sl rfl (by decide) (by decide) (keeps_rawV []) (by decide) rfl _ _ rfl w6.heap.size _ us (Value.slice (cutA As cs a 1) (b - a) (cs - a)) [(Value.slice (cutA As cs a 1) (b - a) (cs - a))] _ HO.out rfl rfl (by intro y hy; simp at hy; subst hy; rfl) rfl _ rfl rfl (by omega) (Nat.le_trans HX.out.size (by simp)) ?_; intro v8 w8 h1 h2; have HX8 := Lib.hid ((HX.out.trans (by first | exact ((Ext.refl wr).drewN _).alloc _ | exact (Ext.refl wr).alloc _)).grown h2 (fun k hk => (HO.out.lt k hk).1)); have HU8 := Lib.hid (show ∀ (k : Nat) (y : Value), (us ++ [(Value.slice (cutA As cs a 1) (b - a) (cs - a))])[k]? = some y → SlC w6 y (TR.cut s r (k : Int)) from snoc_all HU.out HUL.out HNEW.out); generalize hl : us ++ [(Value.slice (cutA As cs a 1) (b - a) (cs - a))] = us8 at h1 HU8; have HL8 := Lib.hid (show us8.length = i + 1 by rw [← hl, List.length_append, HUL.out]; rfl); have HO8 := Lib.hid h1; obtain ⟨A8, c8, rfl, -⟩ := h1.form; clear h1 h2 hl))
          go_roundw
          case rel => exact ⟨i + 1, us8, (by rw [HT2.out]; first | rfl | go_num), HL8.out, by rw [HT2.out]; exact hi2, HX8.out, HO8.out, HU8.out⟩
          case measure => simp [intOf]; omega
        · have a2 : decide (u ≤ v) = false := decide_eq_false huv
          have HNEW := Lib.hid (show SlC w6 (.slice none 0 0) (TR.cut s r (i : Int)) by
            rw [HCUT.out, if_neg (fun h => huv h.2)]
            exact SlR.nil_)
          clear huv hvb hub hu0
          go_wp2_with fail
          go_quiet (fail)
          go_wp2_with (at_builtin; go_loud (refine app_one Try.underlying71 info_sl rfl (by decide) (by decide) (keeps_rawV []) (by decide) rfl _ _ rfl w6.heap.size _ us (Value.slice none 0 0) [(Value.slice none 0 0)] _ HO.out rfl rfl (by intro y hy; simp at hy; subst hy; rfl) rfl _ rfl rfl (by omega) (Nat.le_trans HX.out.size (by simp)) ?_; intro v8 w8 h1 h2; have HX8 := Lib.hid ((HX.out.trans (by first | exact ((Ext.refl wr).drewN _).alloc _ | exact (Ext.refl wr).alloc _)).grown h2 (fun k hk => (HO.out.lt k hk).1)); have HU8 := Lib.hid (show ∀ (k : Nat) (y : Value), (us ++ [(Value.slice none 0 0)])[k]? = some y → SlC w6 y (TR.cut s r (k : Int)) from snoc_all HU.out HUL.out HNEW.out); generalize hl : us ++ [(Value.slice none 0 0)] = us8 at h1 HU8; have HL8 := Lib.hid (show us8.length = i + 1 by rw [← hl, List.length_append, HUL.out]; rfl); have HO8 := Lib.hid h1; obtain ⟨A8, c8, rfl, -⟩ := h1.form; clear h1 h2 hl))
          go_roundw
          case rel => exact ⟨i + 1, us8, (by rw [HT2.out]; first | rfl | go_num), HL8.out, by rw [HT2.out]; exact hi2, HX8.out, HO8.out, HU8.out⟩
          case measure => simp [intOf]; omega
      · have a1 : decide ((0 : Int) ≤ u) = false := decide_eq_false hu0
        have HNEW := Lib.hid (show SlC w6 (.slice none 0 0) (TR.cut s r (i : Int)) by
          rw [HCUT.out, if_neg (fun h => hu0 h.1)]
          exact SlR.nil_)
        clear hvb hub hu0
        go_wp2_with fail
        go_quiet (fail)
        go_wp2_with (at_builtin; go_loud (refine app_one Try.underlying71 info_sl rfl (by decide) (by decide) (keeps_rawV []) (by decide) rfl _ _ rfl w6.heap.size _ us (Value.slice none 0 0) [(Value.slice none 0 0)] _ HO.out rfl rfl (by intro y hy; simp at hy; subst hy; rfl) rfl _ rfl rfl (by omega) (Nat.le_trans HX.out.size (by simp)) ?_; intro v8 w8 h1 h2; have HX8 := Lib.hid ((HX.out.trans (by first | exact ((Ext.refl wr).drewN _).alloc _ | exact (Ext.refl wr).alloc _)).grown h2 (fun k hk => (HO.out.lt k hk).1)); have HU8 := Lib.hid (show ∀ (k : Nat) (y : Value), (us ++ [(Value.slice none 0 0)])[k]? = some y → SlC w6 y (TR.cut s r (k : Int)) from snoc_all HU.out HUL.out HNEW.out); generalize hl : us ++ [(Value.slice none 0 0)] = us8 at h1 HU8; have HL8 := Lib.hid (show us8.length = i + 1 by rw [← hl, List.length_append, HUL.out]; rfl); have HO8 := Lib.hid h1; obtain ⟨A8, c8, rfl, -⟩ := h1.form; clear h1 h2 hl))
        go_roundw
        case rel => exact ⟨i + 1, us8, (by rw [HT2.out]; first | rfl | go_num), HL8.out, by rw [HT2.out]; exact hi2, HX8.out, HO8.out, HU8.out⟩
        case measure => simp [intOf]; omega
end Go.Proofs.Ytfblkahjefdmaaa
