/- Walks: part, Fill of package transform. -/
import Derived.Test.YtfblkahjefdmaaaTrA
import Derived.Test.YtfblkahjefdmaaaTrB
import Derived.Test.YtfblkahjefdmaaaSrR
import Derived.Deep.RegionHeld3
namespace Go.Proofs.Ytfblkahjefdmaaa
open Go.RowKit

namespace TR
/-- A part's text, where its group's text is gs. -/
def partL (f : FM.Form) (gs : List Int) : List Int :=
  if f.kind = 1 then caseP f.cas gs else if f.kind = 3 then (if gs.length = 0 then f.els else gs) else if f.kind = 4 then (if gs.length = 0 then f.els else f.text) else if f.kind = 0 then f.text else if gs.length = 0 then [] else f.text
def part (f : FM.Form) (G : Int → List Int) : List Int := partL f (G f.group)
def fillL (l : List FM.Form) (G : Int → List Int) : List Int := (l.map fun f => part f G).flatten
theorem fill_take {l : List FM.Form} {G : Int → List Int} {k : Nat} (h : k < l.length) : fillL (l.take (k + 1)) G = fillL (l.take k) G ++ part l[k] G := by
  unfold fillL
  rw [List.take_succ_eq_append_getElem h, List.map_append, List.flatten_append]
  simp
theorem fill_app (a b : List FM.Form) (G : Int → List Int) : fillL (a ++ b) G = fillL a G ++ fillL b G := by
  unfold fillL
  rw [List.map_append, List.flatten_append]
theorem fill_take_le (l : List FM.Form) (G : Int → List Int) (k : Nat) : (fillL (l.take k) G).length ≤ (fillL l G).length := by
  conv => rhs; rw [← List.take_append_drop k l, fill_app, List.length_append]
  omega
/-- The text of a group, by its number. -/
def grp (gs : List (List Int)) (k : Int) : List Int := (gs[k.toNat]?).getD []
end TR
/-- Rows of signs, read by their cells alone. -/
def SlG (w : World) (v : Value) (gs : List (List Int)) : Prop := SlR 1 (fun w b o g => ∃ u, w.cell? ⟨b, o, none⟩ = some u ∧ SlC w u g) w v gs
theorem SlG.ext {w w' : World} {v : Value} {gs : List (List Int)} (h : SlG w v gs) (hx : Ext w w') : SlG w' v gs := SlR.mono h fun _ _ _ ⟨u, h1, h2⟩ => ⟨u, hx.cell h1, h2.ext hx⟩
set_option maxRecDepth 100000 in
theorem fillg_any (g : Int) (hg : 0 ≤ g) (hg2 : g ≤ 1000) (gb c : Nat) (A : Option Addr) (gs : List (List Int)) (w : World) (hs : SlG w (.slice A gs.length c) gs) (hb : w.cell? ⟨gb, 0, none⟩ = some (.slice A gs.length c)) :
    Calls Try.prog 78 #[.int .i64 g, .pointer (some ⟨gb, 0, none⟩)] w (RetP (fun w' v => SlC w' v (TR.grp gs g)) w) := by
  obtain ⟨k, rfl⟩ : ∃ k : Nat, g = k := ⟨g.toNat, by omega⟩
  have HS := Lib.hid hs
  clear hs
  by_cases hlt : k < gs.length
  · have hd : decide ((gs.length : Int) ≤ (k : Int)) = false := by simp; omega
    have hki : (k : Int) < (gs.length : Int) := by omega
    have hx := List.getElem?_eq_getElem hlt
    have HG := Lib.hid (show TR.grp gs (k : Int) = gs[k] by unfold TR.grp; rw [Int.toNat_natCast, hx]; rfl)
    obtain ⟨b, o, rfl, u, hu, hsu⟩ := SlR.at_ HS.out hx
    rw [Nat.mul_one] at hu
    have HU := Lib.hid hsu
    clear hsu hx
    go_enter Try.func78, Try.ntmps78
    go_wp2_with fail
    go_ret
    exact ⟨_, rfl, by rw [HG.out]; exact HU.out, Ext.refl _⟩
  · have hd : decide ((gs.length : Int) ≤ (k : Int)) = true := by simp; omega
    have HG := Lib.hid (show TR.grp gs (k : Int) = [] by unfold TR.grp; rw [Int.toNat_natCast, List.getElem?_eq_none (by omega)]; rfl)
    go_enter Try.func78, Try.ntmps78
    go_wp2_with fail
    go_ret
    exact ⟨_, rfl, by rw [HG.out]; exact SlR.nil_, Ext.refl _⟩
set_option maxRecDepth 100000 in
set_option maxHeartbeats 4000000 in
theorem part_fill (f : FM.Form) (A1 A2 : Option Addr) (c1 c2 : Nat) (cp : Value) (G : Int → List Int) (w : World) (ht : SlC w (.slice A1 f.text.length c1) f.text) (he : SlC w (.slice A2 f.els.length c2) f.els)
    (hG : ∀ w', Ext w w' → Calls Try.prog 78 #[.int .i64 f.group, cp] w' (RetP (fun w' v => SlC w' v (G f.group)) w')) (hl : (G f.group).length ≤ 35184372088000) :
    Calls Try.prog 79 #[.agg #[.int .i64 f.kind, .int .i64 f.group, .int .i64 f.cas, .slice A1 f.text.length c1, .slice A2 f.els.length c2], .func (.func 78) #[] #[cp]] w (RetP (fun w' v => SlC w' v (TR.part f G)) w) := by
  have HE1 := Lib.hid ((Ext.refl w).alloc (.cells #[.int .i64 f.kind, .int .i64 f.group, .int .i64 f.cas, .slice A1 f.text.length c1, .slice A2 f.els.length c2] 82))
  have HT := Lib.hid ht
  have HEL := Lib.hid he
  have HG := Lib.hid hG
  have hb := heap_alloc_new w (.cells #[.int .i64 f.kind, .int .i64 f.group, .int .i64 f.cas, .slice A1 f.text.length c1, .slice A2 f.els.length c2] 82)
  have k0 := samere_b (o := 0) hb rfl
  have k1 := samere_b (o := 1) hb rfl
  have k2 := samere_b (o := 2) hb rfl
  have k3 := samere_b (o := 3) hb rfl
  have k4 := samere_b (o := 4) hb rfl
  obtain ⟨gs, hgs⟩ : ∃ gs, G f.group = gs := ⟨_, rfl⟩
  have HGS := Lib.hid hgs
  rw [hgs] at hl
  obtain ⟨R, hR⟩ : ∃ R, TR.part f G = R := ⟨_, rfl⟩
  have HR := Lib.hid (show R = TR.partL f gs by rw [← hR, ← hgs]; rfl)
  rw [hR]
  clear ht he hG hb hgs hR
  go_enter Try.func79, Try.ntmps79
  go_upto_region 1 with fail
  generalize w.alloc _ = w1 at k0 k1 k2 k3 k4 HE1 ⊢
  have hbl := World.block_lt_of_cell? _ _ k0
  generalize w.heap.size = fb at k0 k1 k2 k3 k4 hbl ⊢
  by_cases h1 : f.kind = 1
  · have b1 : (f.kind == 1) = true := by simpa using h1
    have HRR := Lib.hid (show R = TR.caseP f.cas gs by rw [HR.out]; unfold TR.partL; rw [if_pos h1])
    clear h1
    go_upto_region 6 with fail
    go_region_with (first
      | (go_at_call 78; go_loud (refine (HG.out _ (by first | exact HE1.out | exact Ext.drew HE1.out | exact Ext.drewN HE1.out _)).mono ?_; rintro e w2 ⟨v2, rfl, hv2, hx2⟩; rw [HGS.out] at hv2; obtain ⟨A3, c3, rfl, -, -, -⟩ := id hv2; have HV2 := Lib.hid hv2; have HE2 := Lib.hid (Ext.trans (by first | exact HE1.out | exact Ext.drew HE1.out | exact Ext.drewN HE1.out _) hx2); have k0 := hx2.cell k0; have k1 := hx2.cell k1; have k2 := hx2.cell k2; have k3 := hx2.cell k3; have k4 := hx2.cell k4; clear hv2 hx2))
      | (go_at_call 111; go_loud (refine (scase_any f.cas gs _ _ (SlR.mono HV2.out fun _ _ _ h => by first | exact h | exact (Ext.drew (Ext.refl _)).cell h) (by omega)).mono ?_; rintro e w3 ⟨v3, rfl, hv3, hx3⟩; have HV3 := Lib.hid (SlB.slc hv3.sl); have HE3 := Lib.hid (Ext.trans (by first | exact HE2.out | exact Ext.drew HE2.out) hx3); clear hv3 hx3)))
    all_goals
      go_wp2_with fail
      go_ret
      exact ⟨_, rfl, by rw [HRR.out]; exact HV3.out, HE3.out⟩
  have b1 : (f.kind == 1) = false := by simpa using h1
  by_cases h3 : f.kind = 3
  · have b3 : (f.kind == 3) = true := by simpa using h3
    by_cases hg : gs.length = 0
    · have d : decide ((0 : Int) < (gs.length : Int)) = false := decide_eq_false (by omega)
      have d' : decide (0 < gs.length) = false := decide_eq_false (by omega)
      have HRR := Lib.hid (show R = f.els by rw [HR.out]; unfold TR.partL; rw [if_neg h1, if_pos h3, if_pos hg])
      clear h1 h3 hg
      go_wp2_with (go_at_call 78; go_loud (refine (HG.out _ (by first | exact HE1.out | exact Ext.drew HE1.out | exact Ext.drewN HE1.out _)).mono ?_; rintro e w2 ⟨v2, rfl, hv2, hx2⟩; rw [HGS.out] at hv2; obtain ⟨A3, c3, rfl, -, -, -⟩ := id hv2; have HV2 := Lib.hid hv2; have HE2 := Lib.hid (Ext.trans (by first | exact HE1.out | exact Ext.drew HE1.out | exact Ext.drewN HE1.out _) hx2); have k0 := hx2.cell k0; have k1 := hx2.cell k1; have k2 := hx2.cell k2; have k3 := hx2.cell k3; have k4 := hx2.cell k4; clear hv2 hx2))
      go_ret
      exact ⟨_, rfl, by rw [HRR.out]; exact HEL.out.ext HE2.out, HE2.out⟩
    · have d : decide ((0 : Int) < (gs.length : Int)) = true := decide_eq_true (by omega)
      have d' : decide (0 < gs.length) = true := decide_eq_true (by omega)
      have HRR := Lib.hid (show R = gs by rw [HR.out]; unfold TR.partL; rw [if_neg h1, if_pos h3, if_neg hg])
      clear h1 h3 hg
      go_wp2_with (go_at_call 78; go_loud (refine (HG.out _ (by first | exact HE1.out | exact Ext.drew HE1.out | exact Ext.drewN HE1.out _)).mono ?_; rintro e w2 ⟨v2, rfl, hv2, hx2⟩; rw [HGS.out] at hv2; obtain ⟨A3, c3, rfl, -, -, -⟩ := id hv2; have HV2 := Lib.hid hv2; have HE2 := Lib.hid (Ext.trans (by first | exact HE1.out | exact Ext.drew HE1.out | exact Ext.drewN HE1.out _) hx2); have k0 := hx2.cell k0; have k1 := hx2.cell k1; have k2 := hx2.cell k2; have k3 := hx2.cell k3; have k4 := hx2.cell k4; clear hv2 hx2))
      go_ret
      exact ⟨_, rfl, by rw [HRR.out]; exact HV2.out, HE2.out⟩
  have b3 : (f.kind == 3) = false := by simpa using h3
  by_cases h4 : f.kind = 4
  · have b4 : (f.kind == 4) = true := by simpa using h4
    by_cases hg : gs.length = 0
    · have d : ((gs.length : Int) == 0) = true := beq_iff_eq.2 (by omega)
      have d' : (gs.length == 0) = true := beq_iff_eq.2 hg
      have HRR := Lib.hid (show R = f.els by rw [HR.out]; unfold TR.partL; rw [if_neg h1, if_neg h3, if_pos h4, if_pos hg])
      clear h1 h3 h4 hg
      go_wp2_with (go_at_call 78; go_loud (refine (HG.out _ (by first | exact HE1.out | exact Ext.drew HE1.out | exact Ext.drewN HE1.out _)).mono ?_; rintro e w2 ⟨v2, rfl, hv2, hx2⟩; rw [HGS.out] at hv2; obtain ⟨A3, c3, rfl, -, -, -⟩ := id hv2; have HV2 := Lib.hid hv2; have HE2 := Lib.hid (Ext.trans (by first | exact HE1.out | exact Ext.drew HE1.out | exact Ext.drewN HE1.out _) hx2); have k0 := hx2.cell k0; have k1 := hx2.cell k1; have k2 := hx2.cell k2; have k3 := hx2.cell k3; have k4 := hx2.cell k4; clear hv2 hx2))
      go_ret
      exact ⟨_, rfl, by rw [HRR.out]; exact HEL.out.ext HE2.out, HE2.out⟩
    · have d : ((gs.length : Int) == 0) = false := beq_eq_false_iff_ne.2 (by omega)
      have d' : (gs.length == 0) = false := beq_eq_false_iff_ne.2 hg
      have HRR := Lib.hid (show R = f.text by rw [HR.out]; unfold TR.partL; rw [if_neg h1, if_neg h3, if_pos h4, if_neg hg])
      clear h1 h3 h4 hg
      go_wp2_with (go_at_call 78; go_loud (refine (HG.out _ (by first | exact HE1.out | exact Ext.drew HE1.out | exact Ext.drewN HE1.out _)).mono ?_; rintro e w2 ⟨v2, rfl, hv2, hx2⟩; rw [HGS.out] at hv2; obtain ⟨A3, c3, rfl, -, -, -⟩ := id hv2; have HV2 := Lib.hid hv2; have HE2 := Lib.hid (Ext.trans (by first | exact HE1.out | exact Ext.drew HE1.out | exact Ext.drewN HE1.out _) hx2); have k0 := hx2.cell k0; have k1 := hx2.cell k1; have k2 := hx2.cell k2; have k3 := hx2.cell k3; have k4 := hx2.cell k4; clear hv2 hx2))
      go_ret
      exact ⟨_, rfl, by rw [HRR.out]; exact HT.out.ext HE2.out, HE2.out⟩
  have b4 : (f.kind == 4) = false := by simpa using h4
  by_cases h0 : f.kind = 0
  · have b0 : (f.kind == 0) = true := by simpa using h0
    have HRR := Lib.hid (show R = f.text by rw [HR.out]; unfold TR.partL; rw [if_neg h1, if_neg h3, if_neg h4, if_pos h0])
    clear h1 h3 h4 h0
    go_wp2_with fail
    go_ret
    exact ⟨_, rfl, by rw [HRR.out]; exact HT.out.ext HE1.out, HE1.out⟩
  have b0 : (f.kind == 0) = false := by simpa using h0
  by_cases hg : gs.length = 0
  · have d : decide ((0 : Int) < (gs.length : Int)) = false := decide_eq_false (by omega)
    have d' : decide (0 < gs.length) = false := decide_eq_false (by omega)
    have HRR := Lib.hid (show R = [] by rw [HR.out]; unfold TR.partL; rw [if_neg h1, if_neg h3, if_neg h4, if_neg h0, if_pos hg])
    clear h1 h3 h4 h0 hg
    go_wp2_with (go_at_call 78; go_loud (refine (HG.out _ (by first | exact HE1.out | exact Ext.drew HE1.out | exact Ext.drewN HE1.out _)).mono ?_; rintro e w2 ⟨v2, rfl, hv2, hx2⟩; rw [HGS.out] at hv2; obtain ⟨A3, c3, rfl, -, -, -⟩ := id hv2; have HV2 := Lib.hid hv2; have HE2 := Lib.hid (Ext.trans (by first | exact HE1.out | exact Ext.drew HE1.out | exact Ext.drewN HE1.out _) hx2); have k0 := hx2.cell k0; have k1 := hx2.cell k1; have k2 := hx2.cell k2; have k3 := hx2.cell k3; have k4 := hx2.cell k4; clear hv2 hx2))
    go_ret
    exact ⟨_, rfl, by rw [HRR.out]; exact SlR.nil_, HE2.out⟩
  · have d : decide ((0 : Int) < (gs.length : Int)) = true := decide_eq_true (by omega)
    have d' : decide (0 < gs.length) = true := decide_eq_true (by omega)
    have HRR := Lib.hid (show R = f.text by rw [HR.out]; unfold TR.partL; rw [if_neg h1, if_neg h3, if_neg h4, if_neg h0, if_neg hg])
    clear h1 h3 h4 h0 hg
    go_wp2_with (go_at_call 78; go_loud (refine (HG.out _ (by first | exact HE1.out | exact Ext.drew HE1.out | exact Ext.drewN HE1.out _)).mono ?_; rintro e w2 ⟨v2, rfl, hv2, hx2⟩; rw [HGS.out] at hv2; obtain ⟨A3, c3, rfl, -, -, -⟩ := id hv2; have HV2 := Lib.hid hv2; have HE2 := Lib.hid (Ext.trans (by first | exact HE1.out | exact Ext.drew HE1.out | exact Ext.drewN HE1.out _) hx2); have k0 := hx2.cell k0; have k1 := hx2.cell k1; have k2 := hx2.cell k2; have k3 := hx2.cell k3; have k4 := hx2.cell k4; clear hv2 hx2))
    go_ret
    exact ⟨_, rfl, by rw [HRR.out]; exact HT.out.ext HE2.out, HE2.out⟩
end Go.Proofs.Ytfblkahjefdmaaa
