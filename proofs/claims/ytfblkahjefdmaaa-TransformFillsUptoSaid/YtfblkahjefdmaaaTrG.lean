/- Walks: Run's closure; part, fill of package transform with it. -/
import Derived.Test.YtfblkahjefdmaaaTrF
import Derived.Test.YtfblkahjefdmaaaSiR
import Derived.BigQuiet
namespace Go.Proofs.Ytfblkahjefdmaaa
open Go.RowKit

namespace TR
/-- The text of a group of a match c in s. -/
def cut (s c : List Int) (k : Int) : List Int := match c[2 * k.toNat]?, c[2 * k.toNat + 1]? with
  | some a, some b => if 0 ≤ a ∧ a ≤ b then (s.drop a.toNat).take (b.toNat - a.toNat) else []
  | _, _ => []
theorem cut_len (s c : List Int) (k : Int) : (cut s c k).length ≤ s.length := by
  unfold cut
  split
  · split
    · rw [List.length_take, List.length_drop]; omega
    · simp
  · simp
/-- Parts' texts behind another one, in so much room. -/
def fillR (G : Int → List Int) (room : Nat) : List FM.Form → List Int → Option (List Int)
  | [], out => some out
  | f :: l, out => if (room : Int) - (out.length : Int) < ((part f G).length : Int) then none else fillR G room l (out ++ part f G)
theorem fillR_len (G : Int → List Int) (room : Nat) : ∀ (l : List FM.Form) (out o : List Int), fillR G room l out = some o → o.length ≤ out.length ∨ o.length ≤ room
  | [], out, o, h => by
    obtain rfl := Option.some.inj h
    exact .inl (Nat.le_refl _)
  | f :: l, out, o, h => by
    rw [fillR] at h
    split at h
    · cases h
    · have h1 := fillR_len G room l _ o h
      rw [List.length_append] at h1
      omega
end TR
set_option maxRecDepth 100000 in
set_option maxHeartbeats 2000000 in
theorem rung_any (g : Int) (hg : 0 ≤ g) (hg2 : g ≤ 1000) (lb sb nb n3 c3 : Nat) (As : Option Addr) (cs : Nat) (s c : List Int) (w : World) (hs : SlC w (.slice As s.length cs) s)
    (kl : w.cell? ⟨lb, 0, none⟩ = some (.slice (some ⟨nb, 0, none⟩) n3 c3)) (hn3 : n3 = c.length) (kn : ∀ i x, c[i]? = some x → w.cell? ⟨nb, i, none⟩ = some (.int .i64 x)) (ks : w.cell? ⟨sb, 0, none⟩ = some (.slice As s.length cs))
    (hc : ∀ x ∈ c, x = -1 ∨ (0 ≤ x ∧ x ≤ s.length)) :
    Calls Try.prog 83 #[.int .i64 g, .pointer (some ⟨lb, 0, none⟩), .pointer (some ⟨sb, 0, none⟩)] w (RetP (fun w' v => SlC w' v (TR.cut s c g)) w) := by
  obtain ⟨k, rfl⟩ : ∃ k : Nat, g = k := ⟨g.toNat, by omega⟩
  have HS := Lib.hid hs
  obtain ⟨hlc, hcm⟩ : s.length ≤ cs ∧ cs ≤ 9223372036854775807 := by
    obtain ⟨A', c', hv, h1, h2, -⟩ := hs
    injection hv with _ _ e
    subst e
    exact ⟨h1, h2⟩
  obtain ⟨k2, hk2⟩ : ∃ k2 : Nat, 2 * k = k2 := ⟨_, rfl⟩
  have s1 : IntKind.i64.wrap (2 * (k : Int)) = (k2 : Int) := by rw [IntWalk.i64_in _ (by omega)]; omega
  subst hn3
  have s2 : IntKind.i64.wrap ((k2 : Int) + 1) = (k2 : Int) + 1 := IntWalk.i64_in _ (by omega)
  have t2 : ((k2 : Int) + 1).toNat = k2 + 1 := by omega
  obtain ⟨R, hR⟩ : ∃ R, TR.cut s c (k : Int) = R := ⟨_, rfl⟩
  rw [hR]
  unfold TR.cut at hR
  rw [Int.toNat_natCast, hk2] at hR
  clear hs hk2
  by_cases hlt : k2 + 1 < c.length
  rotate_left
  · have hd : decide ((c.length : Int) ≤ (k2 : Int) + 1) = true := decide_eq_true (by omega)
    rw [List.getElem?_eq_none (show c.length ≤ k2 + 1 by omega)] at hR
    have hR : R = [] := by
      rw [← hR]
      cases c[k2]? <;> rfl
    have HR := Lib.hid hR
    clear hR kn hc
    go_enter Try.func83, Try.ntmps83
    go_wp2_with fail
    go_quiet (fail)
    go_wp2_with fail
    go_ret
    exact ⟨_, rfl, by rw [HR.out]; exact SlR.nil_, (Ext.refl _).drewN _⟩
  have hd : decide ((c.length : Int) ≤ (k2 : Int) + 1) = false := decide_eq_false (by omega)
  have h1 : k2 < c.length := by omega
  have h3 : (k2 : Int) < (c.length : Int) := by omega
  have h4 : (k2 : Int) + 1 < (c.length : Int) := by omega
  obtain ⟨a, ha⟩ : ∃ a, c[k2]? = some a := ⟨_, List.getElem?_eq_getElem (by omega)⟩
  obtain ⟨b, hb⟩ : ∃ b, c[k2 + 1]? = some b := ⟨_, List.getElem?_eq_getElem hlt⟩
  rw [ha, hb] at hR
  have ka := kn k2 a ha
  have kb := kn (k2 + 1) b hb
  have hca := hc a (List.mem_of_getElem? ha)
  have hcb := hc b (List.mem_of_getElem? hb)
  simp only at hR
  clear kn hc ha hb
  by_cases ha0 : a < 0
  · have da : decide (a < 0) = true := decide_eq_true ha0
    rw [if_neg (by omega)] at hR
    have HR := Lib.hid hR
    clear hR hca hcb ha0
    go_enter Try.func83, Try.ntmps83
    go_wp2_with fail
    go_quiet (fail)
    go_wp2_with fail
    go_ret
    exact ⟨_, rfl, by rw [← HR.out]; exact SlR.nil_, (Ext.refl _).drewN _⟩
  have da : decide (a < 0) = false := decide_eq_false ha0
  by_cases hba : b < a
  · have db : decide (b < a) = true := decide_eq_true hba
    rw [if_neg (by omega)] at hR
    have HR := Lib.hid hR
    clear hR hca hcb ha0 hba
    go_enter Try.func83, Try.ntmps83
    go_wp2_with fail
    go_quiet (fail)
    go_wp2_with fail
    go_ret
    exact ⟨_, rfl, by rw [← HR.out]; exact SlR.nil_, (Ext.refl _).drewN _⟩
  have db : decide (b < a) = false := decide_eq_false hba
  rw [if_pos (by omega)] at hR
  obtain ⟨an, rfl⟩ : ∃ n : Nat, a = n := ⟨a.toNat, by omega⟩
  obtain ⟨bn, rfl⟩ : ∃ n : Nat, b = n := ⟨b.toNat, by omega⟩
  rw [Int.toNat_natCast, Int.toNat_natCast] at hR
  have HR := Lib.hid hR
  have hab : an ≤ bn := by omega
  have hbs : bn ≤ s.length := by omega
  obtain ⟨i0, hi0, hz0, hz1, hz2⟩ := info_parts info_c
  have hsl := fun W => run_sl_both (P := Try.prog) Try.underlying23 hi0 As (n := s.length) (c := cs) (k := an) (m := bn) hab (by omega) W
  rw [hz1] at hsl
  have HC := Lib.hid (SlR.cut3 HS.out hab hbs)
  clear hR hca hcb ha0 hba
  go_enter Try.func83, Try.ntmps83
  go_wp2_with fail
  go_quiet (fail)
  go_wp2_with fail
  go_quiet (fail)
  go_wp2_with fail
  go_ret
  exact ⟨_, rfl, by rw [← HR.out]; exact SlC.ext HC.out (((Ext.refl _).drewN _).drewN _), ((Ext.refl _).drewN _).drewN _⟩
set_option maxRecDepth 100000 in
set_option maxHeartbeats 4000000 in
theorem part_run (f : FM.Form) (A1 A2 : Option Addr) (c1 c2 : Nat) (cp : Value) (cq : Value) (G : Int → List Int) (w : World) (ht : SlC w (.slice A1 f.text.length c1) f.text) (he : SlC w (.slice A2 f.els.length c2) f.els)
    (hG : ∀ w', Ext w w' → Calls Try.prog 83 #[.int .i64 f.group, cp, cq] w' (RetP (fun w' v => SlC w' v (G f.group)) w')) (hl : (G f.group).length ≤ 35184372088000) :
    Calls Try.prog 79 #[.agg #[.int .i64 f.kind, .int .i64 f.group, .int .i64 f.cas, .slice A1 f.text.length c1, .slice A2 f.els.length c2], .func (.func 83) #[] #[cp, cq]] w (RetP (fun w' v => SlC w' v (TR.part f G)) w) := by
  have HE1 := Lib.hid ((Ext.refl w).alloc (.cells #[.int .i64 f.kind, .int .i64 f.group, .int .i64 f.cas, .slice A1 f.text.length c1, .slice A2 f.els.length c2] 82))
  have HT := Lib.hid ht
  have HEL := Lib.hid he
  have HG := Lib.hid hG
  have hb := heap_alloc_new w (.cells #[.int .i64 f.kind, .int .i64 f.group, .int .i64 f.cas, .slice A1 f.text.length c1, .slice A2 f.els.length c2] 82)
  have k0 := samere_b (o := 0) hb rfl
  have k1 := samere_b (o := 1) hb rfl
  have k2 := samere_b (o := 2) hb rfl
  have k3 := samere_b (o := 3) hb rfl
  have k4 := samere_b (o := 4) hb rfl
  obtain ⟨gs, hgs⟩ : ∃ gs, G f.group = gs := ⟨_, rfl⟩
  have HGS := Lib.hid hgs
  rw [hgs] at hl
  obtain ⟨R, hR⟩ : ∃ R, TR.part f G = R := ⟨_, rfl⟩
  have HR := Lib.hid (show R = TR.partL f gs by rw [← hR, ← hgs]; rfl)
  rw [hR]
  clear ht he hG hb hgs hR
  go_enter Try.func79, Try.ntmps79
  go_upto_region 1 with fail
  generalize w.alloc _ = w1 at k0 k1 k2 k3 k4 HE1 ⊢
  have hbl := World.block_lt_of_cell? _ _ k0
  generalize w.heap.size = fb at k0 k1 k2 k3 k4 hbl ⊢
  by_cases h1 : f.kind = 1
  · have b1 : (f.kind == 1) = true := by simpa using h1
    have HRR := Lib.hid (show R = TR.caseP f.cas gs by rw [HR.out]; unfold TR.partL; rw [if_pos h1])
    clear h1
    go_upto_region 6 with fail
    go_region_with (first
      | (go_at_call 83; go_loud (refine (HG.out _ (by first | exact HE1.out | exact Ext.drew HE1.out | exact Ext.drewN HE1.out _)).mono ?_; rintro e w2 ⟨v2, rfl, hv2, hx2⟩; rw [HGS.out] at hv2; obtain ⟨A3, c3, rfl, -, -, -⟩ := id hv2; have HV2 := Lib.hid hv2; have HE2 := Lib.hid (Ext.trans (by first | exact HE1.out | exact Ext.drew HE1.out | exact Ext.drewN HE1.out _) hx2); have k0 := hx2.cell k0; have k1 := hx2.cell k1; have k2 := hx2.cell k2; have k3 := hx2.cell k3; have k4 := hx2.cell k4; clear hv2 hx2))
      | (go_at_call 111; go_loud (refine (scase_any f.cas gs _ _ (SlR.mono HV2.out fun _ _ _ h => by first | exact h | exact (Ext.drew (Ext.refl _)).cell h) (by omega)).mono ?_; rintro e w3 ⟨v3, rfl, hv3, hx3⟩; have HV3 := Lib.hid (SlB.slc hv3.sl); have HE3 := Lib.hid (Ext.trans (by first | exact HE2.out | exact Ext.drew HE2.out) hx3); clear hv3 hx3)))
    all_goals
      go_wp2_with fail
      go_ret
      exact ⟨_, rfl, by rw [HRR.out]; exact HV3.out, HE3.out⟩
  have b1 : (f.kind == 1) = false := by simpa using h1
  by_cases h3 : f.kind = 3
  · have b3 : (f.kind == 3) = true := by simpa using h3
    by_cases hg : gs.length = 0
    · have d : decide ((0 : Int) < (gs.length : Int)) = false := decide_eq_false (by omega)
      have d' : decide (0 < gs.length) = false := decide_eq_false (by omega)
      have HRR := Lib.hid (show R = f.els by rw [HR.out]; unfold TR.partL; rw [if_neg h1, if_pos h3, if_pos hg])
      clear h1 h3 hg
      go_wp2_with (go_at_call 83; go_loud (refine (HG.out _ (by first | exact HE1.out | exact Ext.drew HE1.out | exact Ext.drewN HE1.out _)).mono ?_; rintro e w2 ⟨v2, rfl, hv2, hx2⟩; rw [HGS.out] at hv2; obtain ⟨A3, c3, rfl, -, -, -⟩ := id hv2; have HV2 := Lib.hid hv2; have HE2 := Lib.hid (Ext.trans (by first | exact HE1.out | exact Ext.drew HE1.out | exact Ext.drewN HE1.out _) hx2); have k0 := hx2.cell k0; have k1 := hx2.cell k1; have k2 := hx2.cell k2; have k3 := hx2.cell k3; have k4 := hx2.cell k4; clear hv2 hx2))
      go_ret
      exact ⟨_, rfl, by rw [HRR.out]; exact HEL.out.ext HE2.out, HE2.out⟩
    · have d : decide ((0 : Int) < (gs.length : Int)) = true := decide_eq_true (by omega)
      have d' : decide (0 < gs.length) = true := decide_eq_true (by omega)
      have HRR := Lib.hid (show R = gs by rw [HR.out]; unfold TR.partL; rw [if_neg h1, if_pos h3, if_neg hg])
      clear h1 h3 hg
      go_wp2_with (go_at_call 83; go_loud (refine (HG.out _ (by first | exact HE1.out | exact Ext.drew HE1.out | exact Ext.drewN HE1.out _)).mono ?_; rintro e w2 ⟨v2, rfl, hv2, hx2⟩; rw [HGS.out] at hv2; obtain ⟨A3, c3, rfl, -, -, -⟩ := id hv2; have HV2 := Lib.hid hv2; have HE2 := Lib.hid (Ext.trans (by first | exact HE1.out | exact Ext.drew HE1.out | exact Ext.drewN HE1.out _) hx2); have k0 := hx2.cell k0; have k1 := hx2.cell k1; have k2 := hx2.cell k2; have k3 := hx2.cell k3; have k4 := hx2.cell k4; clear hv2 hx2))
      go_ret
      exact ⟨_, rfl, by rw [HRR.out]; exact HV2.out, HE2.out⟩
  have b3 : (f.kind == 3) = false := by simpa using h3
  by_cases h4 : f.kind = 4
  · have b4 : (f.kind == 4) = true := by simpa using h4
    by_cases hg : gs.length = 0
    · have d : ((gs.length : Int) == 0) = true := beq_iff_eq.2 (by omega)
      have d' : (gs.length == 0) = true := beq_iff_eq.2 hg
      have HRR := Lib.hid (show R = f.els by rw [HR.out]; unfold TR.partL; rw [if_neg h1, if_neg h3, if_pos h4, if_pos hg])
      clear h1 h3 h4 hg
      go_wp2_with (go_at_call 83; go_loud (refine (HG.out _ (by first | exact HE1.out | exact Ext.drew HE1.out | exact Ext.drewN HE1.out _)).mono ?_; rintro e w2 ⟨v2, rfl, hv2, hx2⟩; rw [HGS.out] at hv2; obtain ⟨A3, c3, rfl, -, -, -⟩ := id hv2; have HV2 := Lib.hid hv2; have HE2 := Lib.hid (Ext.trans (by first | exact HE1.out | exact Ext.drew HE1.out | exact Ext.drewN HE1.out _) hx2); have k0 := hx2.cell k0; have k1 := hx2.cell k1; have k2 := hx2.cell k2; have k3 := hx2.cell k3; have k4 := hx2.cell k4; clear hv2 hx2))
      go_ret
      exact ⟨_, rfl, by rw [HRR.out]; exact HEL.out.ext HE2.out, HE2.out⟩
    · have d : ((gs.length : Int) == 0) = false := beq_eq_false_iff_ne.2 (by omega)
      have d' : (gs.length == 0) = false := beq_eq_false_iff_ne.2 hg
      have HRR := Lib.hid (show R = f.text by rw [HR.out]; unfold TR.partL; rw [if_neg h1, if_neg h3, if_pos h4, if_neg hg])
      clear h1 h3 h4 hg
      go_wp2_with (go_at_call 83; go_loud (refine (HG.out _ (by first | exact HE1.out | exact Ext.drew HE1.out | exact Ext.drewN HE1.out _)).mono ?_; rintro e w2 ⟨v2, rfl, hv2, hx2⟩; rw [HGS.out] at hv2; obtain ⟨A3, c3, rfl, -, -, -⟩ := id hv2; have HV2 := Lib.hid hv2; have HE2 := Lib.hid (Ext.trans (by first | exact HE1.out | exact Ext.drew HE1.out | exact Ext.drewN HE1.out _) hx2); have k0 := hx2.cell k0; have k1 := hx2.cell k1; have k2 := hx2.cell k2; have k3 := hx2.cell k3; have k4 := hx2.cell k4; clear hv2 hx2))
      go_ret
      exact ⟨_, rfl, by rw [HRR.out]; exact HT.out.ext HE2.out, HE2.out⟩
  have b4 : (f.kind == 4) = false := by simpa using h4
  by_cases h0 : f.kind = 0
  · have b0 : (f.kind == 0) = true := by simpa using h0
    have HRR := Lib.hid (show R = f.text by rw [HR.out]; unfold TR.partL; rw [if_neg h1, if_neg h3, if_neg h4, if_pos h0])
    clear h1 h3 h4 h0
    go_wp2_with fail
    go_ret
    exact ⟨_, rfl, by rw [HRR.out]; exact HT.out.ext HE1.out, HE1.out⟩
  have b0 : (f.kind == 0) = false := by simpa using h0
  by_cases hg : gs.length = 0
  · have d : decide ((0 : Int) < (gs.length : Int)) = false := decide_eq_false (by omega)
    have d' : decide (0 < gs.length) = false := decide_eq_false (by omega)
    have HRR := Lib.hid (show R = [] by rw [HR.out]; unfold TR.partL; rw [if_neg h1, if_neg h3, if_neg h4, if_neg h0, if_pos hg])
    clear h1 h3 h4 h0 hg
    go_wp2_with (go_at_call 83; go_loud (refine (HG.out _ (by first | exact HE1.out | exact Ext.drew HE1.out | exact Ext.drewN HE1.out _)).mono ?_; rintro e w2 ⟨v2, rfl, hv2, hx2⟩; rw [HGS.out] at hv2; obtain ⟨A3, c3, rfl, -, -, -⟩ := id hv2; have HV2 := Lib.hid hv2; have HE2 := Lib.hid (Ext.trans (by first | exact HE1.out | exact Ext.drew HE1.out | exact Ext.drewN HE1.out _) hx2); have k0 := hx2.cell k0; have k1 := hx2.cell k1; have k2 := hx2.cell k2; have k3 := hx2.cell k3; have k4 := hx2.cell k4; clear hv2 hx2))
    go_ret
    exact ⟨_, rfl, by rw [HRR.out]; exact SlR.nil_, HE2.out⟩
  · have d : decide ((0 : Int) < (gs.length : Int)) = true := decide_eq_true (by omega)
    have d' : decide (0 < gs.length) = true := decide_eq_true (by omega)
    have HRR := Lib.hid (show R = f.text by rw [HR.out]; unfold TR.partL; rw [if_neg h1, if_neg h3, if_neg h4, if_neg h0, if_neg hg])
    clear h1 h3 h4 h0 hg
    go_wp2_with (go_at_call 83; go_loud (refine (HG.out _ (by first | exact HE1.out | exact Ext.drew HE1.out | exact Ext.drewN HE1.out _)).mono ?_; rintro e w2 ⟨v2, rfl, hv2, hx2⟩; rw [HGS.out] at hv2; obtain ⟨A3, c3, rfl, -, -, -⟩ := id hv2; have HV2 := Lib.hid hv2; have HE2 := Lib.hid (Ext.trans (by first | exact HE1.out | exact Ext.drew HE1.out | exact Ext.drewN HE1.out _) hx2); have k0 := hx2.cell k0; have k1 := hx2.cell k1; have k2 := hx2.cell k2; have k3 := hx2.cell k3; have k4 := hx2.cell k4; clear hv2 hx2))
    go_ret
    exact ⟨_, rfl, by rw [HRR.out]; exact HT.out.ext HE2.out, HE2.out⟩
/-- What is kept while a text grows: whatever happens in new blocks, or in a row of signs of one's own. -/
structure Kpt (R : World → Prop) (B : Nat) : Prop where
  ext : ∀ w w', R w → Ext w w' → R w'
  own : ∀ w w' v xs, R w → OwnB 21 1 Cc B w v xs → w.grownBy w' v.ownBlock → R w'
  size : ∀ w, R w → B ≤ w.heap.size
/-- What fill returns. -/
def FilP (R : World → Prop) (B : Nat) (r : Option (List Int)) (e : Ending) (w' : World) : Prop := R w' ∧ match r with
  | some o => ∃ v, e = .returned (.tuple #[v, .bool true]) ∧ OwnB 21 1 Cc B w' v o
  | none => e = .returned (.tuple #[.slice none 0 0, .bool false])
set_option maxRecDepth 100000 in
set_option maxHeartbeats 4000000 in
theorem tfillr_any (R : World → Prop) (B : Nat) (hK : Kpt R B) (l : List FM.Form) (vl : Value) (out : List Int) (vo : Value) (cp cq : Value) (G : Int → List Int) (w : World) (hR : R w) (ho : OwnB 21 1 Cc B w vo out)
    (hl : ∀ w', R w' → SlF w' vl l) (hG : ∀ f ∈ l, ∀ w', R w' → Calls Try.prog 83 #[.int .i64 f.group, cp, cq] w' (RetP (fun w' v => SlC w' v (G f.group)) w')) (hgl : ∀ k, (G k).length ≤ 1000000) (hol : out.length ≤ 1000000) :
    Calls Try.prog 84 #[vo, vl, .func (.func 83) #[] #[cp, cq], .int .i64 1000] w (FilP R B (TR.fillR G 1000 l out)) := by
  obtain ⟨Al, cl, rfl, hlc, hlm⟩ := (hl w hR).form2
  obtain ⟨T, hT⟩ : ∃ T, TR.fillR G 1000 l out = T := ⟨_, rfl⟩
  rw [hT]
  have HT := Lib.hid hT
  have HL := Lib.hid hl
  have HG := Lib.hid hG
  have HK := Lib.hid hK
  have HGL := Lib.hid hgl
  have HR := Lib.hid hR
  have HO := Lib.hid ho
  obtain ⟨Ao, co, rfl, -⟩ := ho.form
  clear hl hG hK hgl hT ho hR
  go_enter Try.func84, Try.ntmps84
  go_wp2_with fail
  go_loopw [0, 15] (fun x0 x15 wr => ∃ (k : Nat) (o : List Int), k ≤ l.length ∧ x15 = .int .i64 (k : Int) ∧ R wr ∧ OwnB 21 1 Cc B wr x0 o ∧ o.length ≤ 1000000 ∧ TR.fillR G 1000 (l.drop k) o = T) (fun _ x15 _ => l.length - (intOf x15).toNat)
  case atStart => exact ⟨0, out, Nat.zero_le _, rfl, HR.out, HO.out, hol, HT.out⟩
  case round =>
    obtain ⟨k, o, hk, rfl, hr, hown, hol2, hrun⟩ := hrel
    have HRR := Lib.hid hr
    by_cases hlt : k < l.length
    rotate_left
    · have hd : decide ((k : Int) < (l.length : Int)) = false := by simp; omega
      rw [List.drop_eq_nil_of_le (by omega)] at hrun
      have HRUN := Lib.hid hrun
      have HO2 := Lib.hid hown
      obtain ⟨A2, c2, rfl, -⟩ := hown.form
      clear hr hown hrun
      go_wp2_with fail
      go_ret2
      refine ⟨HRR.out, ?_⟩
      rw [← HRUN.out]
      exact ⟨_, rfl, HO2.out⟩
    have hd : decide ((k : Int) < (l.length : Int)) = true := by simp; omega
    have hki : (k : Int) < (l.length : Int) := by omega
    obtain ⟨g, og, cs, rfl, hcf, hcell⟩ := (HL.out _ hr).atF hlt
    have hgf := HG.out l[k] (List.getElem_mem hlt)
    rw [List.drop_eq_getElem_cons hlt] at hrun
    generalize l[k] = f at hcf hgf hrun
    obtain ⟨A1, c1, A2, c2, rfl, ht, he⟩ := hcf.slc2
    have d0 := hcell 0 _ rfl
    have d1 := hcell 1 _ rfl
    have d2 := hcell 2 _ rfl
    have d3 := hcell 3 _ rfl
    have d4 := hcell 4 _ rfl
    rw [Nat.add_zero] at d0
    have hbl := World.block_lt_of_cell? _ _ d0
    have HP := Lib.hid (fun W (hW : Ext wr W) => part_run f A1 A2 c1 c2 cp cq G W (ht.ext hW) (he.ext hW) (fun w' hx' => hgf w' (HK.out.ext _ _ hr (hW.trans hx'))) (Nat.le_trans (HGL.out _) (by omega)))
    have HO2 := Lib.hid hown
    obtain ⟨Ao2, co2, rfl, -⟩ := hown.form
    obtain ⟨pt, hpt⟩ : ∃ pt, TR.part f G = pt := ⟨_, rfl⟩
    rw [TR.fillR, hpt] at hrun
    have HPT := Lib.hid hpt
    have HRUN := Lib.hid hrun
    have HTE := Lib.hid (And.intro ht he)
    clear hcell hcf ht he hown hr hgf hpt hrun
    have s1 : IntKind.i64.wrap ((1000 : Int) - (o.length : Int)) = (1000 : Int) - (o.length : Int) := IntWalk.i64_in _ (by omega)
    have parm : True := trivial
    by_cases hfit : (1000 : Int) - (o.length : Int) < (pt.length : Int)
    · have d : decide ((1000 : Int) - (o.length : Int) < (pt.length : Int)) = true := decide_eq_true hfit
      have HN := Lib.hid (show T = none by rw [← HRUN.out, if_pos (by exact_mod_cast hfit)])
      clear hfit
      go_wp2_with (go_at_call 79; go_loud (refine (HP.out _ ((Ext.refl wr).alloc _)).mono ?_; rintro e w5 ⟨v5, rfl, hv5, hx5⟩; rw [HPT.out] at hv5; obtain ⟨A5, c5, rfl, -, -, -⟩ := id hv5; have HX5 := Lib.hid (((Ext.refl wr).alloc (.cells #[.int .i64 f.kind, .int .i64 f.group, .int .i64 f.cas, .slice A1 f.text.length c1, .slice A2 f.els.length c2] 82)).trans hx5); clear hv5 hx5))
      go_ret2
      refine ⟨HK.out.ext _ _ HRR.out HX5.out, ?_⟩
      rw [HN.out]
      exact rfl
    · have d : decide ((1000 : Int) - (o.length : Int) < (pt.length : Int)) = false := decide_eq_false hfit
      have HN := Lib.hid (show TR.fillR G 1000 (l.drop (k + 1)) (o ++ pt) = T by rw [← HRUN.out, if_neg (by exact_mod_cast hfit)])
      have hpl : o.length + pt.length ≤ 1000000 := by omega
      clear hfit
      go_wp2_with (first
        | (go_at_call 79; go_loud (refine (HP.out _ ((Ext.refl wr).alloc _)).mono ?_; rintro e w5 ⟨v5, rfl, hv5, hx5⟩; rw [HPT.out] at hv5; obtain ⟨A5, c5, rfl, -, -, -⟩ := id hv5; have HV5 := Lib.hid hv5; have hy5 := ((Ext.refl wr).alloc (.cells #[.int .i64 f.kind, .int .i64 f.group, .int .i64 f.cas, .slice A1 f.text.length c1, .slice A2 f.els.length c2] 82)).trans hx5; have HR5 := Lib.hid (HK.out.ext _ _ HRR.out hy5); have HO5 := Lib.hid (HO2.out.keepB (keepsB_c _) (fun _ _ _ ho => hy5.heap ho)); clear hv5 hx5 hy5))
        | (at_builtin; go_loud (refine app_srcC rfl _ _ rfl B _ _ o pt HO5.out rfl rfl HV5.out ?hn ?hB ?_; (case hn => omega); (case hB => exact HK.out.size _ HR5.out); intro v6 w6 h1 h2; have HR6 := Lib.hid (HK.out.own _ _ _ _ HR5.out HO5.out h2); have HO6 := Lib.hid h1; clear h1 h2)))
      go_roundw
      case rel => exact ⟨k + 1, o ++ pt, by omega, by go_num, HR6.out, HO6.out, by rw [List.length_append]; exact hpl, HN.out⟩
      case measure => simp [intOf]; omega
end Go.Proofs.Ytfblkahjefdmaaa
