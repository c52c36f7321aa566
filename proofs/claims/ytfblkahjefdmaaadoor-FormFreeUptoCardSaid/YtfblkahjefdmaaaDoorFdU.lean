/- Walk: the law FormFree. -/
import Derived.Test.YtfblkahjefdmaaaDoorFmF
namespace Go.Proofs.YtfblkahjefdmaaaDoor
open Go.RowKit

theorem total_szs : ∀ l : List FM.Form, FM.total l ≤ FM.szs l
  | [] => Nat.le_refl _
  | f :: r => by
    have ih := total_szs r
    have e2 : FM.total (f :: r) = (2 * f.text.length + 2 * f.els.length + (if f.kind = 0 then 0 else 17)) + FM.total r := rfl
    unfold FM.szs FM.sz
    rw [e2]
    split <;> omega
theorem CF.mk5 {w : World} {va ve : Value} {k g c : Int} {t e : List Int} (ht : SlB 21 1 Cc 0 w va t) (he : SlB 21 1 Cc 0 w ve e) : CF 0 w [.int .i64 k, .int .i64 g, .int .i64 c, va, ve] ⟨k, g, c, t, e⟩ := ⟨va, ve, rfl, ht, he⟩
theorem free_own {w : World} {a b : List Int} {va vb : Value} {g k h : Int} (ha : SlB 21 1 Cc 0 w va a) (hb : SlB 21 1 Cc 0 w vb b) (hh : h = 99 - g) :
    OwnB 34 5 (CF 0) w.heap.size (w.alloc (.cells #[.int .i64 2, .int .i64 g, .int .i64 0, va, .slice none 0 0, .int .i64 3, .int .i64 h, .int .i64 0, .slice none 0 0, vb, .int .i64 4, .int .i64 g, .int .i64 0, vb, va, .int .i64 1, .int .i64 g, .int .i64 k, .slice none 0 0, .slice none 0 0] 34)) (.slice (some ⟨w.heap.size, 0, none⟩) 4 4)
      [⟨2, g, 0, a, []⟩, ⟨3, 99 - g, 0, [], b⟩, ⟨4, g, 0, b, a⟩, ⟨1, g, k, [], []⟩] := by
  subst hh
  have hx : ∀ o, Ext w (w.alloc o) := fun o => (Ext.refl w).alloc o
  refine OwnB.lit (w := w) _ _ _ _ rfl rfl (Nat.le_refl _) (by simp) rfl ?_
  intro i x hi
  have ha' := fun o => ha.keep (keeps_c []) (KeepT.of_ext (hx o)) (KeepT.of_ext (hx o))
  have hb' := fun o => hb.keep (keeps_c []) (KeepT.of_ext (hx o)) (KeepT.of_ext (hx o))
  match i, hi with
  | 0, hi => simp at hi; subst hi; exact ⟨_, CF.mk5 (ha' _) SlB.nil_, rfl, fun i u hu => by match i, hu with | 0, hu => exact hu | 1, hu => exact hu | 2, hu => exact hu | 3, hu => exact hu | 4, hu => exact hu | n + 5, hu => simp at hu⟩
  | 1, hi => simp at hi; subst hi; exact ⟨_, CF.mk5 SlB.nil_ (hb' _), rfl, fun i u hu => by match i, hu with | 0, hu => exact hu | 1, hu => exact hu | 2, hu => exact hu | 3, hu => exact hu | 4, hu => exact hu | n + 5, hu => simp at hu⟩
  | 2, hi => simp at hi; subst hi; exact ⟨_, CF.mk5 (hb' _) (ha' _), rfl, fun i u hu => by match i, hu with | 0, hu => exact hu | 1, hu => exact hu | 2, hu => exact hu | 3, hu => exact hu | 4, hu => exact hu | n + 5, hu => simp at hu⟩
  | 3, hi => simp at hi; subst hi; exact ⟨_, CF.mk5 SlB.nil_ SlB.nil_, rfl, fun i u hu => by match i, hu with | 0, hu => exact hu | 1, hu => exact hu | 2, hu => exact hu | 3, hu => exact hu | 4, hu => exact hu | n + 5, hu => simp at hu⟩
  | n + 4, hi => simp at hi

set_option maxRecDepth 100000 in
set_option maxHeartbeats 1000000 in
theorem formFree_any (a b : List Int) (va vb : Value) (g k : Int) (w : World) (ha : SlC w va a) (hb : SlC w vb b) (hla : a.length ≤ 2000000) (hlb : b.length ≤ 2000000) :
    Calls Tryd.prog 6 #[va, vb, .int .i64 g, .int .i64 k] w (Ret (.bool true) w) := by
  have HA := Lib.hid (clean_any a va w ha (by omega))
  have HB := Lib.hid hb
  obtain ⟨A, c, rfl, -⟩ := id ha
  obtain ⟨A', c', rfl, -⟩ := id hb
  have HI1 := Lib.hid (fun W => kidx_any g 100 W (by omega))
  have HI2 := Lib.hid (fun W => kidx_any k 6 W (by omega))
  have hg := kidx_lt g (n := 100) (by omega)
  have hk := kidx_lt k (n := 6) (by omega)
  have e100 : (100 : Int).toNat = 100 := rfl
  have e6 : (6 : Int).toNat = 6 := rfl
  rw [e100] at HI1
  rw [e6] at HI2
  generalize kidx g 100 = g1 at HI1 hg
  generalize kidx k 6 = k1 at HI2 hk
  clear ha hb e100 e6
  go_enter Tryd.func6, Tryd.ntmps6
  have tok1 : True := trivial
  go_upto_region 2 with (first
    | (go_at_call 20; have _t := tok1; go_loud (refine HA.out.mono ?_; rintro e w1 ⟨v1, rfl, hv1, hE1⟩; obtain ⟨A1, c1, rfl, -⟩ := hv1.form; have HV1 := Lib.hid hv1.sl; have HE1 := Lib.hid hE1; have HB1 := Lib.hid (clean_any b _ w1 (HB.out.ext hE1) (by omega)); clear hv1 hE1; clear tok1 _t))
    | (go_at_call 20; go_loud (refine HB1.out.mono ?_; rintro e w2 ⟨v2, rfl, hv2, hE2⟩; obtain ⟨A2, c2, rfl, -⟩ := hv2.form; have HV2 := Lib.hid hv2.sl; have HE2 := Lib.hid hE2; clear hv2 hE2)))
  have hsa := clean_sign a
  have hsb := clean_sign b
  have hna : (cleanL a).length ≤ 2000000 := by rw [clean_len]; exact hla
  have hnb : (cleanL b).length ≤ 2000000 := by rw [clean_len]; exact hlb
  generalize cleanL a = a1 at HV1 hsa hna HA ⊢
  generalize cleanL b = b1 at HV2 hsb hnb HB1 ⊢
  go_upto_region 4 with (first
    | (go_at_call 9; go_loud (refine (HI1.out _).mono ?_; rintro e w3 ⟨rfl, hE3⟩))
    | (go_at_call 9; go_loud (refine (HI2.out _).mono ?_; rintro e w4 ⟨rfl, hE4⟩)))
  have hX := HE2.out.trans (hE3.trans hE4)
  have hX2 := hE3.trans hE4
  have HVA := Lib.hid ((HV1.out.keep (keeps_c []) (KeepT.of_ext hX) (KeepT.of_ext hX)).weaken (Nat.zero_le _))
  have HVB := Lib.hid ((HV2.out.keep (keeps_c []) (KeepT.of_ext hX2) (KeepT.of_ext hX2)).weaken (Nat.zero_le _))
  have HOW := Lib.hid (free_own (g := g1) (k := k1) HVA.out HVB.out rfl)
  have HX := Lib.hid (HE1.out.trans hX)
  clear hX hX2 hE3 hE4
  go_upto_if 40 with fail
  go_cut [10] (fun s10 wx => ∃ A5 c5, s10 = .slice A5 (freeL a1 b1 g1 k1).length c5 ∧ OwnB 34 5 (CF 0) w4.heap.size wx s10 (freeL a1 b1 g1 k1) ∧ Ext w4 wx)
  case first =>
    by_cases h : a1 = []
    · subst h
      have hd : decide ((0 : Int) < (([] : List Int).length : Int)) = false := rfl
      go_wp2_with fail
      go_meet
      exact ⟨_, _, rfl, HOW.out, (Ext.refl _).alloc _⟩
    · have hpos := List.length_pos_iff.2 h
      have hd : decide ((0 : Int) < (a1.length : Int)) = true := by simp; omega
      have hd2 : decide (0 < a1.length) = true := by simp; omega
      have HFL := Lib.hid (show freeL a1 b1 g1 k1 = [⟨2, g1, 0, a1, []⟩, ⟨3, 99 - g1, 0, [], b1⟩, ⟨4, g1, 0, b1, a1⟩, ⟨1, g1, k1, [], []⟩] ++ [⟨0, 0, 0, a1, []⟩] by unfold freeL; rw [if_neg h])
      clear h
      go_wp2_with (at_builtin; go_loud (refine app_lit Tryd.underlying32 info_form rfl (by decide) (by decide) (keeps_cff 0) (by decide) rfl _ _ rfl w4.heap.size _ [⟨2, g1, 0, a1, []⟩, ⟨3, 99 - g1, 0, [], b1⟩, ⟨4, g1, 0, b1, a1⟩, ⟨1, g1, k1, [], []⟩] ⟨0, 0, 0, a1, []⟩ [.int .i64 0, .int .i64 0, .int .i64 0, .slice A1 a1.length c1, .slice none 0 0] 34 HOW.out (CF.mk5 (HVA.out.keep (keeps_c []) (KeepT.of_ext ((Ext.refl _).alloc _)) (KeepT.of_ext ((Ext.refl _).alloc _))) SlB.nil_) rfl (by simp [Value.oneCell']) rfl (w4.heap.size + 1) rfl (by simp) (by simp) (by simp) ?_; intro gg cap w5 h1 h2; have hE5 : Ext w4 w5 := (((Ext.refl w4).alloc _).alloc _).grown h2 (fun k hk => (HOW.out.lt k hk).1); have HO5 := Lib.hid h1; have HE5 := Lib.hid hE5; clear h1 h2 hE5))
      go_meet
      exact ⟨_, _, by rw [HFL.out]; rfl, by rw [HFL.out]; exact HO5.out, HE5.out⟩
  case rest =>
    obtain ⟨A5, c5, rfl, ho5, hE5⟩ := hcut
    have HO5 := Lib.hid (ho5.sl.weaken (Nat.zero_le _))
    have HE5 := Lib.hid (HX.out.trans hE5)
    have hmay := free_may hsa hsb (g := g1) (k := k1) ⟨by omega, by omega⟩ ⟨by omega, by omega⟩
    have hsz := free_szs a1 b1 g1 k1
    have hbk := free_back hsa hsb (g := g1) (k := k1) ⟨by omega, by omega⟩ ⟨by omega, by omega⟩
    have hpt := Nat.le_trans (FM.print_total (freeL a1 b1 g1 k1)) (total_szs _)
    clear ho5 hE5
    generalize freeL a1 b1 g1 k1 = l at HO5 hmay hsz hbk hpt ⊢
    have HP := Lib.hid (print_any l _ _ _ HO5.out (by omega))
    have HMAY := Lib.hid hmay
    have HBK := Lib.hid hbk
    have hpl : (FM.print l).length ≤ 100000000 := by omega
    clear hmay hbk hpt hsz HOW HVA HVB
    go_upto_region 7 with (go_at_call 14; go_loud (refine HP.out.mono ?_; rintro e w6 ⟨hE6, ⟨-, A6, c6, rfl, hp⟩ | ⟨hq, -⟩⟩; rotate_left; (exact absurd (hq.symm.trans HMAY.out) (by simp)); have HP6 := Lib.hid hp; have HE6 := Lib.hid hE6; clear hp hE6))
    generalize FM.print l = q at HP6 hpl HBK ⊢
    go_upto_region 8 with (first
      | (at_builtin; go_loud (refine app_i32 rfl _ _ rfl _ _ q [47] HP6.out.allocs rfl ⟨w6.heap.size, 0, none⟩ 1 1 rfl rfl (one_cells rfl) ?hn ?hB ?_; (case hn => (simp only [List.length_cons, List.length_nil]; omega)); (case hB => exact Nat.le_trans HE6.out.size (by simp)); intro v7 w7 h1 h2; have hE7 : Ext _ w7 := (HE6.out.alloc _).grown h2 (fun k hk => (HP6.out.lt k hk).1); generalize hl : q ++ [47] = q2 at h1 HBK; have hq2 : q2.length ≤ 100000001 := (by rw [← hl, List.length_append]; simp only [List.length_cons, List.length_nil]; omega); obtain ⟨A7, c7, rfl, -⟩ := h1.form; have HO7 := Lib.hid h1.sl; have HE7 := Lib.hid hE7; clear h1 h2 hE7 hl))
      | (go_at_call 21; go_loud (refine (scan_any q2 _ 0 _ (SlB.slc HO7.out) (by omega) (.inl (by omega))).mono ?_; rw [HBK.out]; rintro e w8 ⟨hE8, ⟨l', j', Am, cm, hq, rfl, hlv⟩ | ⟨hq, -⟩⟩; rotate_left; (exact absurd hq (by simp)); injection hq with hq; injection hq with hq1 hq2; subst hq1 hq2; have HV8 := Lib.hid hlv; have HE8 := Lib.hid (HE7.out.trans hE8); clear hlv hE8)))
    have HSF := Lib.hid (sameforms_any l _ _ _ _ w8 (HO5.out.keep (keeps_cff _) (KeepT.of_ext HE8.out) (KeepT.of_ext HE8.out)) HV8.out)
    have HKN := Lib.hid known11_any
    have HXA := Lib.hid (HE5.out.trans HE8.out)
    go_wp2_with (first
      | (go_at_call 22; go_loud (refine HSF.out.mono ?_; rintro e w9 ⟨rfl, hE9⟩))
      | (go_at_call 11; go_loud (refine (HKN.out _).mono ?_; rintro e w10 ⟨rfl, hE10⟩)))
    go_ret
    exact ⟨rfl, (HXA.out.trans hE9).trans hE10⟩
end Go.Proofs.YtfblkahjefdmaaaDoor
