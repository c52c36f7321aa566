/- For ResynMadeS: what the texts XLwL of wip/tpl say. -/
import Derived.Test.YtpcdknfmgacggaaV
import Derived.Test.YtpcdknfmgacggaaX
set_option maxRecDepth 100000
set_option maxHeartbeats 600000
namespace Go.Proofs.Ytpcdknfmgacggaa
open Go.RowKit
/-- An element of an own row, and its place. -/
theorem OwnB.getQ {B : Nat} {w : World} {A : Option Addr} {n c : Nat} {xs : List Int} (h : OwnB 21 1 Cc B w (.slice A n c) xs) {k : Nat} (hk : k < xs.length) :
    ∃ g, A = some ⟨g, 0, none⟩ ∧ B ≤ g ∧ w.cell? ⟨g, k, none⟩ = some (.int .i32 xs[k]) ∧ w.frozen? ⟨g, k, none⟩ = false ∧ ∀ y, OwnB 21 1 Cc B (w.setCell ⟨g, k, none⟩ (.int .i32 y)) (.slice A n c) (xs.set k y) := by
  have hf := h.flat_i32
  obtain ⟨hl, hf⟩ := hf
  rcases hf with ⟨hv, h0⟩ | ⟨g, cap, cur, hv, hb, hg, hnc, hcm, hcs, htk⟩
  · omega
  · injection hv with e1 e2 e3
    subst e1 e2 e3
    refine ⟨g, rfl, hb, ?_, frozen_of_row w g k _ _ hg, fun y => OwnB.of_flat_i32 ?_⟩
    · rw [cell_of_row w g k _ _ _ hg]
      have h1 : (cur.toList.take (xs.length * 1))[k]? = some (.int .i32 xs[k]) := by rw [htk]; simp [hk]
      rw [List.getElem?_take, if_pos (by omega)] at h1
      simpa using h1
    · rw [List.length_set]
      refine ⟨by simp, .inr ⟨g, c, cur.setIfInBounds k (.int .i32 y), rfl, hb, heap_set hg, hnc, hcm, by simpa using hcs, ?_⟩⟩
      rw [Array.toList_setIfInBounds, List.take_set, htk, List.map_set]
theorem resynMade_any (ts : List Int) (v : Value) (cut at_ r : Int) (more : List Int) (vm : Value) (w : World) (hv : SlI w v ts) (hm : SlC w vm more) (hml : more.length ≤ 35184372087808) : Calls Try.prog 3 #[v, .int .i64 cut, .int .i64 at_, .int .i32 r, vm] w (Ret (.bool true) w) := by
  obtain ⟨A, c, rfl, hlc, hcm, _⟩ := id hv
  obtain ⟨Am, cm, rfl, -⟩ := id hm
  have he0 : Ten w w.heap.size (.slice A ts.length c) ts (w.alloc (.cells #[.slice A ts.length c, .int .i64 0] 26)) 0 :=
    ⟨hv, Nat.le_refl _, (Ext.refl w).alloc _, heap_alloc_new w _, Nat.zero_le _⟩
  have HP := Lib.hid (pat_c3 _ _ he0)
  have HMO := Lib.hid hm
  clear he0 hv hm
  go_enter Try.func3, Try.ntmps3
  go_upto_region 2 with (go_at_call 4; go_loud (refine HP.out.mono ?_; rintro e w1 ⟨v1, rfl, hv1, -, ho1⟩; have HE1 := Lib.hid (show Ext w w1 from ((Ext.refl w).alloc _).only ho1 (Nat.le_refl _)); have HV1 := Lib.hid (SlB.slc hv1); obtain ⟨A1, c1, rfl, hc1l, -⟩ := hv1.form; clear hv1 ho1))
  have hpl : ((TP.pat ts 3 0).1).length ≤ 20000 := Nat.le_trans (TP.pat3_ok ts 0 (Nat.zero_le _)).2 (by decide)
  generalize (TP.pat ts 3 0).1 = p at HV1 hpl hc1l ⊢
  clear HP
  go_upto_region 3 with (go_at_call 5; go_loud (refine (kindex_any cut ((p.length : Int) + 1) (by omega) (by omega) w1).mono ?_; rintro e w2 ⟨⟨k, hk, rfl⟩, rfl⟩))
  have hkl : k ≤ p.length := by omega
  go_upto_region 4 with (at_builtin; go_loud (refine app_srcC rfl _ _ rfl w2.heap.size _ _ [] p OwnB.nil_ rfl rfl HV1.out ?hn ?hB ?_; (case hn => simp; omega); (case hB => exact Nat.le_refl _); intro va wa h1 h2; rw [List.nil_append] at h1; have HXO := Lib.hid h1; have HEA := Lib.hid (show Ext w2 wa from (Ext.refl w2).grown h2 (by intro k hk; simp [Value.ownBlock] at hk)); obtain ⟨Ax, cx, rfl, -⟩ := h1.form; clear h1 h2))
  go_upto_if 27 with fail
  go_cut [] (fun wx => ∃ x : List Int, x.length = p.length ∧ OwnB 21 1 Cc w2.heap.size wx (.slice Ax p.length cx) x ∧ Ext w2 wx)
  case first =>
    by_cases h0 : 0 < p.length
    · have h0i : (0 : Int) < (p.length : Int) := by omega
      have hd0 : decide ((0 : Int) < (p.length : Int)) = true := decide_eq_true h0i
      go_wp2_with (go_at_call 5; go_loud (refine (kindex_any at_ (p.length : Int) (by omega) (by omega) wa).mono ?_; rintro e wb ⟨⟨j, hj, rfl⟩, rfl⟩; have hjn : j < p.length := (by omega); obtain ⟨gx, rfl, hgB, hcell, hfr, hset⟩ := HXO.out.getQ (k := j) hjn; have HSET := Lib.hid (hset r); clear hset))
      go_meet
      exact ⟨p.set j r, by simp, HSET.out, HEA.out.set hgB _⟩
    · have h9 : ¬ (0 : Int) < (p.length : Int) := by omega
      have hd0 : decide ((0 : Int) < (p.length : Int)) = false := decide_eq_false h9
      go_wp2_with fail
      go_meet
      exact ⟨p, rfl, HXO.out, HEA.out⟩
  case rest =>
    obtain ⟨x, hxl, hxo, hxe⟩ := hcut
    have hxl2 : x.length ≤ 20000 := by omega
    clear hxl
    obtain ⟨i0, hi0, hz0, hz1, hz2⟩ := info_parts info_c
    have hsl7 := fun W => run_sl_hiS (P := Try.prog) Try.underlying23 hi0 A1 (n := p.length) (c := c1) (m := k) (Nat.le_trans hkl hc1l) W
    have HPC := Lib.hid (HV1.out.ext hxe)
    have HXC := Lib.hid (SlB.slc hxo.sl)
    have HMC := Lib.hid (HMO.out.ext (HE1.out.trans hxe))
    have HEC := Lib.hid (HE1.out.trans hxe)
    have HTK := Lib.hid (show SlC wc (.slice A1 k c1) (p.take k) from by
      have h := HPC.out
      have e : p = p.take k ++ p.drop k := (List.take_append_drop k p).symm
      have h2 : SlC wc (.slice A1 p.length c1) (p.take k ++ p.drop k) := by rw [← e]; exact h
      have h3 := SlC.front h2
      rwa [List.length_take, Nat.min_eq_left hkl] at h3)
    have hpb : p.length ≤ 35184372999000 := by omega
    have hkb : (p.take k).length ≤ 35184372999000 := by rw [List.length_take]; omega
    have hxb : x.length ≤ 35184372999000 := by omega
    have hpm0 : (p ++ more).length ≤ 35184372999000 := by rw [List.length_append]; omega
    have hpj : p.length + more.length ≤ 35184372999000 := by omega
    have hki : (k : Int) ≤ (c1 : Int) := by have := hc1l; omega
    clear hxo hxe
    go_wp2_with (first
      | (go_at_call 8; go_loud (refine (known8_any wh).mono ?_; rintro e wi ⟨rfl, hx⟩; have HEI := Lib.hid (HEH.out.trans hx); clear hx))
      | (go_at_call 6; go_loud (refine (same8L_any pm _ wg HJG.out hpm).mono ?_; rintro e wh ⟨rfl, hx⟩; have HEH := Lib.hid (HEG.out.trans hx); clear hx))
      | (go_at_call 7; go_loud (refine (rjoinL_any p more _ _ wf HPF.out HMF.out hpj).mono ?_; rintro e wg ⟨vg, rfl, hvg, hx⟩; have HEG := Lib.hid (HEF.out.trans hx); have HJG := Lib.hid (SlB.slc hvg.sl); generalize hjl : p ++ more = pm at HJG; have hpm : pm.length ≤ 35184372999000 := (by rw [← hjl]; exact hpm0); obtain ⟨Aj, oj, rfl, -⟩ := id HJG.out; clear hvg hx hjl))
      | (go_at_call 6; go_loud (refine (same8L_any x (.slice Ax p.length cx) we HXE.out hxb).mono ?_; rintro e wf ⟨rfl, hx⟩; have HEF := Lib.hid (HEE.out.trans hx); have HPF := Lib.hid (HPE.out.ext hx); have HMF := Lib.hid (HME.out.ext hx); clear hx))
      | (go_at_call 6; go_loud (refine (same8L_any (p.take k) (.slice A1 k c1) wd HTKD.out hkb).mono ?_; rintro e we ⟨rfl, hx⟩; have HEE := Lib.hid (HED.out.trans hx); have HPE := Lib.hid (HPD.out.ext hx); have HXE := Lib.hid (HXD.out.ext hx); have HME := Lib.hid (HMD.out.ext hx); clear hx))
      | (go_at_call 6; go_loud (refine (same8L_any p (.slice A1 p.length c1) wc HPC.out hpb).mono ?_; rintro e wd ⟨rfl, hx⟩; have HED := Lib.hid (HEC.out.trans hx); have HPD := Lib.hid (HPC.out.ext hx); have HXD := Lib.hid (HXC.out.ext hx); have HMD := Lib.hid (HMC.out.ext hx); have HTKD := Lib.hid (HTK.out.ext hx); clear hx)))
    go_ret
    exact ⟨rfl, HEI.out⟩
end Go.Proofs.Ytpcdknfmgacggaa
