/- Walk: the document's own Fill. -/
import Derived.Test.YtfblkahjefdmaaaTvB
import Derived.Deep.DeepCutAuto
namespace Go.Proofs.Ytfblkahjefdmaaa
open Go.RowKit

namespace FM
theorem may_kind {l : List Form} (h : may l = true) {f : Form} (hf : f ∈ l) : 0 ≤ f.kind ∧ f.kind ≤ 4 := by
  have := all_may2 h f hf
  unfold may1 at this
  by_cases h0 : f.kind = 0 ∨ f.kind = 1 ∨ f.kind = 2 ∨ f.kind = 3 ∨ f.kind = 4
  · omega
  · simp only [not_or] at h0
    simp [h0.1, h0.2.1, h0.2.2.1, h0.2.2.2.1, h0.2.2.2.2] at this
end FM
theorem OwnB.ext5 {w : World} {o : Obj} {B : Nat} {v : Value} {xs : List Int} (h : OwnB 21 1 Cc B w v xs) : OwnB 21 1 Cc B (w.alloc o) v xs := OwnB.allocs h
set_option maxRecDepth 100000 in
set_option maxHeartbeats 1000000 in
theorem rfill_any (l : List FM.Form) (vl : Value) (gs : List (List Int)) (vg : Value) (w : World) (hl : SlF w vl l) (hg : SlG w vg gs) (hb : ∀ g ∈ gs, g.length ≤ 35184372088000) (ht : (TR.fillL l (TR.grp gs)).length ≤ 35184372088000) :
    Calls Try.prog 45 #[vl, vg] w (RetP (fun w' v => OwnB 21 1 Cc w.heap.size w' v (if FM.may l = true then TR.fillL l (TR.grp gs) else [])) w) := by
  obtain ⟨Al, cl, rfl, hlc, hlm⟩ := hl.form2
  obtain ⟨Ag, cg, rfl, hgc, hgm, -⟩ := id hg
  have HL1 := Lib.hid hl
  have HG1 := Lib.hid hg
  have HB := Lib.hid hb
  have HTL := Lib.hid ht
  obtain ⟨R, hR⟩ : ∃ R, (if FM.may l = true then TR.fillL l (TR.grp gs) else []) = R := ⟨_, rfl⟩
  rw [hR]
  have HR := Lib.hid hR
  clear hl hg hb ht hR
  go_enter Try.func45, Try.ntmps45
  go_wp2_with fail
  refine (rmayform_any l _ _ HL1.out).mono ?_
  rintro e w2 ⟨rfl, hE2⟩
  rcases hm : FM.may l with _ | _
  · have HE2 := Lib.hid hE2
    have HRR := Lib.hid (show R = [] by rw [← HR.out, if_neg (by rw [hm]; decide)])
    clear hE2
    go_wp2_with fail
    go_ret
    exact ⟨_, rfl, by rw [HRR.out]; exact OwnB.nil_, HE2.out⟩
  have HRR := Lib.hid (show R = TR.fillL l (TR.grp gs) by rw [← HR.out, if_pos hm])
  have HMG := Lib.hid (fun f (hf : f ∈ l) => And.intro (FM.may_grp hm hf) (FM.may_kind hm hf))
  have HL2 := Lib.hid (HL1.out.ext hE2)
  have HG2 := Lib.hid (HG1.out.ext hE2)
  have HE2 := Lib.hid hE2
  clear hE2 hm HL1 HG1
  go_wp2_with fail
  go_loopw [5, 6] (fun x5 x6 wr => ∃ k : Nat, k ≤ l.length ∧ x6 = .int .i64 (k : Int) ∧ Ext w2 wr ∧ OwnB 21 1 Cc w2.heap.size wr x5 (TR.fillL (l.take k) (TR.grp gs))) (fun _ x6 _ => l.length - (intOf x6).toNat)
  case atStart => exact ⟨0, Nat.zero_le _, rfl, Ext.refl _, OwnB.nil_⟩
  case round =>
    obtain ⟨k, hk, rfl, hx, hown⟩ := hrel
    have HX := Lib.hid hx
    by_cases hlt : k < l.length
    rotate_left
    · have hd : decide ((k : Int) < (l.length : Int)) = false := by simp; omega
      rw [List.take_of_length_le (by omega)] at hown
      have HO := Lib.hid hown
      obtain ⟨Ao, co, rfl, -⟩ := hown.form
      clear hx hown
      go_wp2_with fail
      go_ret
      exact ⟨_, rfl, by rw [HRR.out]; exact OwnB.weak HO.out HE2.out.size, HE2.out.trans HX.out⟩
    have hd : decide ((k : Int) < (l.length : Int)) = true := by simp; omega
    have hki : (k : Int) < (l.length : Int) := by omega
    obtain ⟨g, o, cs, rfl, hcf, hcell⟩ := (HL2.out.ext hx).atF hlt
    have HSN := Lib.hid (TR.fill_take (G := TR.grp gs) hlt)
    have hsum := TR.fill_take_le l (TR.grp gs) (k + 1)
    rw [TR.fill_take hlt, List.length_append] at hsum
    have hgr := HMG.out l[k] (List.getElem_mem hlt)
    generalize l[k] = f at hcf HSN hsum hgr
    obtain ⟨⟨hg0, hg1⟩, hkd0, hkd4⟩ := hgr
    obtain ⟨A1, c1, A2, c2, rfl, ht, he⟩ := hcf.slc2
    have d0 := hcell 0 _ rfl
    have d1 := hcell 1 _ rfl
    have d2 := hcell 2 _ rfl
    have d3 := hcell 3 _ rfl
    have d4 := hcell 4 _ rfl
    rw [Nat.add_zero] at d0
    have hbl := World.block_lt_of_cell? _ _ d0
    have hsum := Nat.le_trans hsum HTL.out
    have HO5 := Lib.hid (OwnB.ext5 (o := .cells #[.int .i64 f.kind, .int .i64 f.group, .int .i64 f.cas, .slice A1 f.text.length c1, .slice A2 f.els.length c2] 82) hown)
    have hx5 := (Ext.refl wr).alloc (.cells #[.int .i64 f.kind, .int .i64 f.group, .int .i64 f.cas, .slice A1 f.text.length c1, .slice A2 f.els.length c2] 82)
    have HX5 := Lib.hid (hx.trans hx5)
    have HT5 := Lib.hid (ht.ext hx5)
    have HEL5 := Lib.hid (he.ext hx5)
    obtain ⟨Ao, co, rfl, -⟩ := hown.form
    have hbx := heap_alloc_new wr (.cells #[.int .i64 f.kind, .int .i64 f.group, .int .i64 f.cas, .slice A1 f.text.length c1, .slice A2 f.els.length c2] 82)
    have k0 := samere_b (o := 0) hbx rfl
    have k1 := samere_b (o := 1) hbx rfl
    have k2 := samere_b (o := 2) hbx rfl
    have k3 := samere_b (o := 3) hbx rfl
    have k4 := samere_b (o := 4) hbx rfl
    have HGX := Lib.hid (HG2.out.ext (hx.trans hx5))
    clear hcell hcf ht he hown hx hx5 hbx
    generalize TR.fillL (l.take k) (TR.grp gs) = out at HO5 HSN hsum ⊢
    obtain ⟨pt, hpt⟩ : ∃ pt, TR.part f (TR.grp gs) = pt := ⟨_, rfl⟩
    rw [hpt] at HSN hsum
    have hGl : (TR.grp gs f.group).length ≤ 35184372088000 := TR.grp_le HB.out _
    obtain ⟨G, hG⟩ : ∃ G, TR.grp gs f.group = G := ⟨_, rfl⟩
    rw [hG] at hGl
    have HPT := Lib.hid (show pt = TR.partL f G by rw [← hpt, ← hG]; rfl)
    have HGG := Lib.hid hG
    clear hpt hG
    go_upto_region 8 with fail
    generalize wr.alloc _ = w5 at HO5 HX5 HT5 HEL5 HGX k0 k1 k2 k3 k4 ⊢
    have hb5 := World.block_lt_of_cell? _ _ k0
    generalize wr.heap.size = fb at k0 k1 k2 k3 k4 hb5 ⊢
    clear d0 d1 d2 d3 d4 hbl
    go_upto_if 27 with fail
    go_cut [8] (fun x8 wx => ∃ A c, x8 = .slice A G.length c ∧ SlC w5 (.slice A G.length c) G ∧ wx = w5)
    case first =>
      by_cases hin : f.group < (gs.length : Int)
      · have dg : decide (f.group < (gs.length : Int)) = true := decide_eq_true hin
        have hqn : f.group.toNat < gs.length := by omega
        obtain ⟨gb, go_, hA, u, hcu, hsu⟩ := SlR.at_ HGX.out (List.getElem?_eq_getElem hqn)
        subst hA
        rw [Nat.mul_one] at hcu
        have hGe : gs[f.group.toNat] = G := by
          have := HGG.out
          unfold TR.grp at this
          rw [List.getElem?_eq_getElem hqn] at this
          exact this
        rw [hGe] at hsu
        obtain ⟨Au, cu, rfl, -, -, -⟩ := id hsu
        have HSU := Lib.hid hsu
        clear hsu hGe
        go_wp2_with fail
        go_meet
        exact ⟨Au, cu, rfl, HSU.out, rfl⟩
      · have dg : decide (f.group < (gs.length : Int)) = false := decide_eq_false hin
        have hGe : G = [] := by
          have := HGG.out
          unfold TR.grp at this
          rw [List.getElem?_eq_none (by omega)] at this
          exact this.symm
        have HGE := Lib.hid hGe
        clear hGe
        go_wp2_with fail
        go_meet
        exact ⟨none, 0, by rw [HGE.out]; rfl, by rw [HGE.out]; exact SlR.nil_, rfl⟩
    case rest =>
      obtain ⟨A8, c8, rfl, hsg, rfl⟩ := hcut
      have HG5 := Lib.hid hsg
      clear hsg HGX
      by_cases hs : G.length = 0
      · have ds : decide ((0 : Int) < (G.length : Int)) = false := decide_eq_false (by omega)
        have ds2 : decide (0 < G.length) = false := decide_eq_false (by omega)
        by_cases hk0 : f.kind = 0
        · have HV := Lib.hid (show pt = f.text by rw [HPT.out]; unfold TR.partL; rw [if_neg (by omega)]; rw [if_neg (by omega)]; rw [if_neg (by omega)]; rw [if_pos hk0])
          rw [HV.out] at HSN hsum
          have b0 : (f.kind == 0) = true := by simp; omega
          have b1 : (f.kind == 1) = false := by simp; omega
          have b2 : (f.kind == 2) = false := by simp; omega
          have b3 : (f.kind == 3) = false := by simp; omega
          have b4 : (f.kind == 4) = false := by simp; omega
          clear HPT HV hk0 hs
          go_wp2_with (at_builtin; go_loud (refine app_srcC rfl _ _ rfl w2.heap.size _ _ out f.text HO5.out rfl rfl HT5.out ?hn ?hB ?_; (case hn => omega); (case hB => exact HX5.out.size); intro v6 w6 h1 h2; have HX6 := Lib.hid (HX5.out.grown h2 (fun j hj => (HO5.out.lt j hj).1)); have HO6 := Lib.hid h1; clear h1 h2))
          go_roundw
          case rel => exact ⟨k + 1, by omega, by go_num, HX6.out, by rw [HSN.out]; exact HO6.out⟩
          case measure => simp [intOf]; omega
        by_cases hk1 : f.kind = 1
        · have HV := Lib.hid (show pt = TR.caseP f.cas G by rw [HPT.out]; unfold TR.partL; rw [if_pos hk1])
          rw [HV.out] at HSN hsum
          have b0 : (f.kind == 0) = false := by simp; omega
          have b1 : (f.kind == 1) = true := by simp; omega
          have b2 : (f.kind == 2) = false := by simp; omega
          have b3 : (f.kind == 3) = false := by simp; omega
          have b4 : (f.kind == 4) = false := by simp; omega
          clear HPT HV hk1 hs
          obtain ⟨CP, hCP⟩ : ∃ x, TR.caseP f.cas G = x := ⟨_, rfl⟩
          rw [hCP] at HSN hsum
          have HCP := Lib.hid hCP
          clear hCP
          go_wp2_with (first
            | (go_at_call 39; go_loud (refine (rcaseP_any f.cas G _ _ HG5.out hGl).mono ?_; rw [HCP.out]; rintro e w7 ⟨v7, rfl, ho7, hx7⟩; have HV7 := Lib.hid (SlB.slc ho7.sl); have HX7 := Lib.hid (HX5.out.trans hx7); have HO7 := Lib.hid (HO5.out.keepB (keepsB_c _) (fun _ _ _ ho => hx7.heap ho)); obtain ⟨A7, c7, rfl, -⟩ := ho7.form; clear ho7 hx7))
            | (at_builtin; go_loud (refine app_srcC rfl _ _ rfl w2.heap.size _ _ out CP HO7.out rfl rfl HV7.out ?hn ?hB ?_; (case hn => omega); (case hB => exact HX7.out.size); intro v6 w6 h1 h2; have HX6 := Lib.hid (HX7.out.grown h2 (fun j hj => (HO7.out.lt j hj).1)); have HO6 := Lib.hid h1; clear h1 h2)))
          go_roundw
          case rel => exact ⟨k + 1, by omega, by go_num, HX6.out, by rw [HSN.out]; exact HO6.out⟩
          case measure => simp [intOf]; omega
        by_cases hk2 : f.kind = 2
        · have HV := Lib.hid (show pt = [] by rw [HPT.out]; unfold TR.partL; rw [if_neg (by omega)]; rw [if_neg (by omega)]; rw [if_neg (by omega)]; rw [if_neg (by omega)]; rw [if_pos hs])
          rw [HV.out] at HSN hsum
          have b0 : (f.kind == 0) = false := by simp; omega
          have b1 : (f.kind == 1) = false := by simp; omega
          have b2 : (f.kind == 2) = true := by simp; omega
          have b3 : (f.kind == 3) = false := by simp; omega
          have b4 : (f.kind == 4) = false := by simp; omega
          clear HPT HV hk2 hs
          go_wp2_with fail
          go_roundw
          case rel => exact ⟨k + 1, by omega, by go_num, HX5.out, by rw [HSN.out]; exact (by rw [List.append_nil]; exact HO5.out)⟩
          case measure => simp [intOf]; omega
        by_cases hk3 : f.kind = 3
        · have HV := Lib.hid (show pt = f.els by rw [HPT.out]; unfold TR.partL; rw [if_neg (by omega)]; rw [if_pos hk3]; rw [if_pos hs])
          rw [HV.out] at HSN hsum
          have b0 : (f.kind == 0) = false := by simp; omega
          have b1 : (f.kind == 1) = false := by simp; omega
          have b2 : (f.kind == 2) = false := by simp; omega
          have b3 : (f.kind == 3) = true := by simp; omega
          have b4 : (f.kind == 4) = false := by simp; omega
          clear HPT HV hk3 hs
          go_wp2_with (at_builtin; go_loud (refine app_srcC rfl _ _ rfl w2.heap.size _ _ out f.els HO5.out rfl rfl HEL5.out ?hn ?hB ?_; (case hn => omega); (case hB => exact HX5.out.size); intro v6 w6 h1 h2; have HX6 := Lib.hid (HX5.out.grown h2 (fun j hj => (HO5.out.lt j hj).1)); have HO6 := Lib.hid h1; clear h1 h2))
          go_roundw
          case rel => exact ⟨k + 1, by omega, by go_num, HX6.out, by rw [HSN.out]; exact HO6.out⟩
          case measure => simp [intOf]; omega
        have hk4 : f.kind = 4 := by omega
        have HV := Lib.hid (show pt = f.els by rw [HPT.out]; unfold TR.partL; rw [if_neg (by omega)]; rw [if_neg (by omega)]; rw [if_pos hk4]; rw [if_pos hs])
        rw [HV.out] at HSN hsum
        have b0 : (f.kind == 0) = false := by simp; omega
        have b1 : (f.kind == 1) = false := by simp; omega
        have b2 : (f.kind == 2) = false := by simp; omega
        have b3 : (f.kind == 3) = false := by simp; omega
        have b4 : (f.kind == 4) = true := by simp; omega
        clear HPT HV hk4 hs
        go_wp2_with (at_builtin; go_loud (refine app_srcC rfl _ _ rfl w2.heap.size _ _ out f.els HO5.out rfl rfl HEL5.out ?hn ?hB ?_; (case hn => omega); (case hB => exact HX5.out.size); intro v6 w6 h1 h2; have HX6 := Lib.hid (HX5.out.grown h2 (fun j hj => (HO5.out.lt j hj).1)); have HO6 := Lib.hid h1; clear h1 h2))
        go_roundw
        case rel => exact ⟨k + 1, by omega, by go_num, HX6.out, by rw [HSN.out]; exact HO6.out⟩
        case measure => simp [intOf]; omega
      · have ds : decide ((0 : Int) < (G.length : Int)) = true := decide_eq_true (by omega)
        have ds2 : decide (0 < G.length) = true := decide_eq_true (by omega)
        by_cases hk0 : f.kind = 0
        · have HV := Lib.hid (show pt = f.text by rw [HPT.out]; unfold TR.partL; rw [if_neg (by omega)]; rw [if_neg (by omega)]; rw [if_neg (by omega)]; rw [if_pos hk0])
          rw [HV.out] at HSN hsum
          have b0 : (f.kind == 0) = true := by simp; omega
          have b1 : (f.kind == 1) = false := by simp; omega
          have b2 : (f.kind == 2) = false := by simp; omega
          have b3 : (f.kind == 3) = false := by simp; omega
          have b4 : (f.kind == 4) = false := by simp; omega
          clear HPT HV hk0 hs
          go_wp2_with (at_builtin; go_loud (refine app_srcC rfl _ _ rfl w2.heap.size _ _ out f.text HO5.out rfl rfl HT5.out ?hn ?hB ?_; (case hn => omega); (case hB => exact HX5.out.size); intro v6 w6 h1 h2; have HX6 := Lib.hid (HX5.out.grown h2 (fun j hj => (HO5.out.lt j hj).1)); have HO6 := Lib.hid h1; clear h1 h2))
          go_roundw
          case rel => exact ⟨k + 1, by omega, by go_num, HX6.out, by rw [HSN.out]; exact HO6.out⟩
          case measure => simp [intOf]; omega
        by_cases hk1 : f.kind = 1
        · have HV := Lib.hid (show pt = TR.caseP f.cas G by rw [HPT.out]; unfold TR.partL; rw [if_pos hk1])
          rw [HV.out] at HSN hsum
          have b0 : (f.kind == 0) = false := by simp; omega
          have b1 : (f.kind == 1) = true := by simp; omega
          have b2 : (f.kind == 2) = false := by simp; omega
          have b3 : (f.kind == 3) = false := by simp; omega
          have b4 : (f.kind == 4) = false := by simp; omega
          clear HPT HV hk1 hs
          obtain ⟨CP, hCP⟩ : ∃ x, TR.caseP f.cas G = x := ⟨_, rfl⟩
          rw [hCP] at HSN hsum
          have HCP := Lib.hid hCP
          clear hCP
          go_wp2_with (first
            | (go_at_call 39; go_loud (refine (rcaseP_any f.cas G _ _ HG5.out hGl).mono ?_; rw [HCP.out]; rintro e w7 ⟨v7, rfl, ho7, hx7⟩; have HV7 := Lib.hid (SlB.slc ho7.sl); have HX7 := Lib.hid (HX5.out.trans hx7); have HO7 := Lib.hid (HO5.out.keepB (keepsB_c _) (fun _ _ _ ho => hx7.heap ho)); obtain ⟨A7, c7, rfl, -⟩ := ho7.form; clear ho7 hx7))
            | (at_builtin; go_loud (refine app_srcC rfl _ _ rfl w2.heap.size _ _ out CP HO7.out rfl rfl HV7.out ?hn ?hB ?_; (case hn => omega); (case hB => exact HX7.out.size); intro v6 w6 h1 h2; have HX6 := Lib.hid (HX7.out.grown h2 (fun j hj => (HO7.out.lt j hj).1)); have HO6 := Lib.hid h1; clear h1 h2)))
          go_roundw
          case rel => exact ⟨k + 1, by omega, by go_num, HX6.out, by rw [HSN.out]; exact HO6.out⟩
          case measure => simp [intOf]; omega
        by_cases hk2 : f.kind = 2
        · have HV := Lib.hid (show pt = f.text by rw [HPT.out]; unfold TR.partL; rw [if_neg (by omega)]; rw [if_neg (by omega)]; rw [if_neg (by omega)]; rw [if_neg (by omega)]; rw [if_neg hs])
          rw [HV.out] at HSN hsum
          have b0 : (f.kind == 0) = false := by simp; omega
          have b1 : (f.kind == 1) = false := by simp; omega
          have b2 : (f.kind == 2) = true := by simp; omega
          have b3 : (f.kind == 3) = false := by simp; omega
          have b4 : (f.kind == 4) = false := by simp; omega
          clear HPT HV hk2 hs
          go_wp2_with (at_builtin; go_loud (refine app_srcC rfl _ _ rfl w2.heap.size _ _ out f.text HO5.out rfl rfl HT5.out ?hn ?hB ?_; (case hn => omega); (case hB => exact HX5.out.size); intro v6 w6 h1 h2; have HX6 := Lib.hid (HX5.out.grown h2 (fun j hj => (HO5.out.lt j hj).1)); have HO6 := Lib.hid h1; clear h1 h2))
          go_roundw
          case rel => exact ⟨k + 1, by omega, by go_num, HX6.out, by rw [HSN.out]; exact HO6.out⟩
          case measure => simp [intOf]; omega
        by_cases hk3 : f.kind = 3
        · have HV := Lib.hid (show pt = G by rw [HPT.out]; unfold TR.partL; rw [if_neg (by omega)]; rw [if_pos hk3]; rw [if_neg hs])
          rw [HV.out] at HSN hsum
          have b0 : (f.kind == 0) = false := by simp; omega
          have b1 : (f.kind == 1) = false := by simp; omega
          have b2 : (f.kind == 2) = false := by simp; omega
          have b3 : (f.kind == 3) = true := by simp; omega
          have b4 : (f.kind == 4) = false := by simp; omega
          clear HPT HV hk3 hs
          go_wp2_with (at_builtin; go_loud (refine app_srcC rfl _ _ rfl w2.heap.size _ _ out G HO5.out rfl rfl HG5.out ?hn ?hB ?_; (case hn => omega); (case hB => exact HX5.out.size); intro v6 w6 h1 h2; have HX6 := Lib.hid (HX5.out.grown h2 (fun j hj => (HO5.out.lt j hj).1)); have HO6 := Lib.hid h1; clear h1 h2))
          go_roundw
          case rel => exact ⟨k + 1, by omega, by go_num, HX6.out, by rw [HSN.out]; exact HO6.out⟩
          case measure => simp [intOf]; omega
        have hk4 : f.kind = 4 := by omega
        have HV := Lib.hid (show pt = f.text by rw [HPT.out]; unfold TR.partL; rw [if_neg (by omega)]; rw [if_neg (by omega)]; rw [if_pos hk4]; rw [if_neg hs])
        rw [HV.out] at HSN hsum
        have b0 : (f.kind == 0) = false := by simp; omega
        have b1 : (f.kind == 1) = false := by simp; omega
        have b2 : (f.kind == 2) = false := by simp; omega
        have b3 : (f.kind == 3) = false := by simp; omega
        have b4 : (f.kind == 4) = true := by simp; omega
        clear HPT HV hk4 hs
        go_wp2_with (at_builtin; go_loud (refine app_srcC rfl _ _ rfl w2.heap.size _ _ out f.text HO5.out rfl rfl HT5.out ?hn ?hB ?_; (case hn => omega); (case hB => exact HX5.out.size); intro v6 w6 h1 h2; have HX6 := Lib.hid (HX5.out.grown h2 (fun j hj => (HO5.out.lt j hj).1)); have HO6 := Lib.hid h1; clear h1 h2))
        go_roundw
        case rel => exact ⟨k + 1, by omega, by go_num, HX6.out, by rw [HSN.out]; exact HO6.out⟩
        case measure => simp [intOf]; omega
end Go.Proofs.Ytfblkahjefdmaaa
