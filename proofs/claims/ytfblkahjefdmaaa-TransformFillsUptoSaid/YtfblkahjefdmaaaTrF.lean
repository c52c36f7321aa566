/- Walk: Fill of package transform. -/
import Derived.Test.YtfblkahjefdmaaaTrC
namespace Go.Proofs.Ytfblkahjefdmaaa
open Go.RowKit

namespace FM
theorem all_may2 : ∀ {l : List Form} {p : Bool}, mayR p l = true → ∀ f ∈ l, may1 f = true
  | [], _, _, f, hf => by simp at hf
  | g :: l, p, h, f, hf => by
    unfold mayR at h
    simp only [Bool.and_eq_true] at h
    rcases List.mem_cons.1 hf with rfl | hf
    · simp_all
    · exact all_may2 (l := l) (by first | exact h.2 | exact h.1.2 | exact h.2.2) f hf
theorem may_grp {l : List Form} (h : may l = true) {f : Form} (hf : f ∈ l) : 0 ≤ f.group ∧ f.group ≤ 99 := by
  have := may1_of (all_may2 h f hf)
  exact ⟨this.2.2.1, this.2.2.2.1⟩
end FM
theorem TR.grp_le {gs : List (List Int)} {n : Nat} (h : ∀ g ∈ gs, g.length ≤ n) (k : Int) : (TR.grp gs k).length ≤ n := by
  unfold TR.grp
  rcases hk : gs[k.toNat]? with _ | g
  · simp
  · exact h g (List.mem_of_getElem? hk)
set_option maxRecDepth 100000 in
set_option maxHeartbeats 4000000 in
theorem tfill_any (l : List FM.Form) (vl : Value) (gs : List (List Int)) (vg : Value) (w : World) (hl : SlF w vl l) (hg : SlG w vg gs) (hb : ∀ g ∈ gs, g.length ≤ 35184372088000) (ht : (TR.fillL l (TR.grp gs)).length ≤ 35184372088000) :
    Calls Try.prog 44 #[vl, vg] w (RetP (fun w' v => OwnB 21 1 Cc w.heap.size w' v (if FM.may l = true then TR.fillL l (TR.grp gs) else [])) w) := by
  obtain ⟨Al, cl, rfl, hlc, hlm⟩ := hl.form2
  obtain ⟨Ag, cg, rfl, hgc, hgm, -⟩ := id hg
  have hE1 := (Ext.refl w).alloc (.cells #[.slice Ag gs.length cg] 71)
  have HL1 := Lib.hid (hl.ext hE1)
  have HG1 := Lib.hid (hg.ext hE1)
  have HE1 := Lib.hid hE1
  have HB := Lib.hid hb
  have HTL := Lib.hid ht
  have kb := samere_b (o := 0) (heap_alloc_new w (.cells #[.slice Ag gs.length cg] 71)) rfl
  obtain ⟨R, hR⟩ : ∃ R, (if FM.may l = true then TR.fillL l (TR.grp gs) else []) = R := ⟨_, rfl⟩
  rw [hR]
  have HR := Lib.hid hR
  clear hl hg hE1 hb ht hR
  go_enter Try.func44, Try.ntmps44
  go_upto_region 1 with fail
  generalize w.alloc _ = w1 at HL1 HG1 HE1 kb ⊢
  generalize hgb : w.heap.size = gb at kb ⊢
  have HGB := Lib.hid hgb
  clear hgb
  go_wp2_with fail
  refine (may2_any l _ _ HL1.out).mono ?_
  rintro e w2 ⟨rfl, hE2⟩
  rcases hm : FM.may l with _ | _
  · clear kb
    have HE2 := Lib.hid (HE1.out.trans hE2)
    have HRR := Lib.hid (show R = [] by rw [← HR.out, if_neg (by rw [hm]; decide)])
    clear hE2
    go_wp2_with fail
    go_ret
    exact ⟨_, rfl, by rw [HRR.out]; exact OwnB.nil_, HE2.out⟩
  have HRR := Lib.hid (show R = TR.fillL l (TR.grp gs) by rw [← HR.out, if_pos hm])
  have HMG := Lib.hid (fun f (hf : f ∈ l) => FM.may_grp hm hf)
  have HL2 := Lib.hid (HL1.out.ext hE2)
  have HG2 := Lib.hid (HG1.out.ext hE2)
  have HE2 := Lib.hid (HE1.out.trans hE2)
  have kb := hE2.cell kb
  have hgl := World.block_lt_of_cell? _ _ kb
  clear hE2 hm HL1 HG1 HE1
  go_wp2_with fail
  go_loopw [6, 15] (fun x6 x15 wr => ∃ k : Nat, k ≤ l.length ∧ x15 = .int .i64 (k : Int) ∧ Ext w2 wr ∧ OwnB 21 1 Cc w2.heap.size wr x6 (TR.fillL (l.take k) (TR.grp gs))) (fun _ x15 _ => l.length - (intOf x15).toNat)
  case atStart => exact ⟨0, Nat.zero_le _, rfl, Ext.refl _, OwnB.nil_⟩
  case round =>
    obtain ⟨k, hk, rfl, hx, hown⟩ := hrel
    have HX := Lib.hid hx
    by_cases hlt : k < l.length
    rotate_left
    · have hd : decide ((k : Int) < (l.length : Int)) = false := by simp; omega
      rw [List.take_of_length_le (by omega)] at hown
      have HO := Lib.hid hown
      obtain ⟨Ao, co, rfl, -⟩ := hown.form
      clear hx hown
      go_wp2_with fail
      go_ret
      exact ⟨_, rfl, by rw [HRR.out]; exact OwnB.weak HO.out HE2.out.size, HE2.out.trans HX.out⟩
    have hd : decide ((k : Int) < (l.length : Int)) = true := by simp; omega
    have hki : (k : Int) < (l.length : Int) := by omega
    obtain ⟨g, o, cs, rfl, hcf, hcell⟩ := (HL2.out.ext hx).atF hlt
    have HSN := Lib.hid (TR.fill_take (G := TR.grp gs) hlt)
    have hsum := TR.fill_take_le l (TR.grp gs) (k + 1)
    rw [TR.fill_take hlt, List.length_append] at hsum
    have hgr := HMG.out l[k] (List.getElem_mem hlt)
    generalize l[k] = f at hcf HSN hsum hgr
    obtain ⟨A1, c1, A2, c2, rfl, ht, he⟩ := hcf.slc2
    have d0 := hcell 0 _ rfl
    have d1 := hcell 1 _ rfl
    have d2 := hcell 2 _ rfl
    have d3 := hcell 3 _ rfl
    have d4 := hcell 4 _ rfl
    rw [Nat.add_zero] at d0
    have hbl := World.block_lt_of_cell? _ _ d0
    have hsum := Nat.le_trans hsum HTL.out
    have kr := hx.cell kb
    have HP := Lib.hid (fun W (hW : Ext wr W) => part_fill f A1 A2 c1 c2 (.pointer (some ⟨gb, 0, none⟩)) (TR.grp gs) W (ht.ext hW) (he.ext hW) (fun w' hx' => fillg_any f.group hgr.1 (by omega) gb cg Ag gs w' (HG2.out.ext ((hx.trans hW).trans hx')) ((hW.trans hx').cell kr)) (TR.grp_le HB.out _))
    have HO := Lib.hid hown
    obtain ⟨Ao, co, rfl, -⟩ := hown.form
    clear hcell hcf ht he hown hx hgr kr
    generalize TR.fillL (l.take k) (TR.grp gs) = out at HO HSN hsum ⊢
    obtain ⟨pt, hpt⟩ : ∃ pt, TR.part f (TR.grp gs) = pt := ⟨_, rfl⟩
    rw [hpt] at HSN hsum
    have HPT := Lib.hid hpt
    clear hpt
    go_wp2_with (first
      | (go_at_call 79; go_loud (refine (HP.out _ ((Ext.refl wr).alloc _)).mono ?_; rintro e w5 ⟨v5, rfl, hv5, hx5⟩; rw [HPT.out] at hv5; obtain ⟨A5, c5, rfl, -, -, -⟩ := id hv5; have HV5 := Lib.hid hv5; have hy5 := ((Ext.refl wr).alloc (.cells #[.int .i64 f.kind, .int .i64 f.group, .int .i64 f.cas, .slice A1 f.text.length c1, .slice A2 f.els.length c2] 82)).trans hx5; have HX5 := Lib.hid (HX.out.trans hy5); have HO5 := Lib.hid (HO.out.keepB (keepsB_c _) (fun _ _ _ ho => hy5.heap ho)); clear hv5 hx5 hy5))
      | (at_builtin; go_loud (refine app_srcC rfl _ _ rfl w2.heap.size _ _ out pt HO5.out rfl rfl HV5.out ?hn ?hB ?_; (case hn => omega); (case hB => exact HX5.out.size); intro v6 w6 h1 h2; have HX6 := Lib.hid (HX5.out.grown h2 (fun j hj => (HO5.out.lt j hj).1)); have HO6 := Lib.hid h1; clear h1 h2)))
    go_roundw
    case rel => exact ⟨k + 1, by omega, by go_num, HX6.out, by rw [HSN.out]; exact HO6.out⟩
    case measure => simp [intOf]; omega
end Go.Proofs.Ytfblkahjefdmaaa
