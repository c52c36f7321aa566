/- Walk: the law FormBack. -/
import Derived.Test.YtfblkahjefdmaaaDoorFdO
import Derived.Test.YtfblkahjefdmaaaDoorFmR
namespace Go.Proofs.YtfblkahjefdmaaaDoor
open Go.RowKit

theorem szs_total : ∀ l : List FM.Form, FM.szs l ≤ FM.total l + 30 * l.length
  | [] => Nat.le_refl _
  | f :: r => by
    have ih := szs_total r
    have e2 : FM.total (f :: r) = (2 * f.text.length + 2 * f.els.length + (if f.kind = 0 then 0 else 17)) + FM.total r := rfl
    unfold FM.szs FM.sz
    rw [e2, List.length_cons]; omega
theorem scanAt_zero {s : List Int} (h : s.all RX.isSign = true) : scanAt s 0 = FM.scanAll s := by
  unfold scanAt
  rw [if_pos ⟨Int.le_refl _, by omega, h⟩]
  unfold scanK FM.scanAll
  simp
/-- What the law's first scan brings. -/
theorem back_facts {f : List Int} (hf : f.all RX.isSign = true) (hl : f.length ≤ 51) (hs : ∀ more, ∃ l j, FM.scanAll (f ++ 47 :: more) = some (l, j)) :
    ∃ l j, scanAt (f ++ [47]) 0 = some (l, j) ∧ j < (f ++ [47]).length ∧ (f ++ [47])[j]? = some 47 ∧ FM.may l = true ∧ FM.szs l ≤ 100000 ∧ (FM.print l).length ≤ 520 := by
  have hsg : (f ++ [47]).all RX.isSign = true := by rw [List.all_append, hf]; decide
  obtain ⟨l, j, h⟩ := hs []
  have h2 := FM.scanAll_ok h hsg
  have h3 := FM.scan_total _ _ _ _ _ _ _ h hsg
  refine ⟨l, j, by rw [scanAt_zero hsg]; exact h, (List.getElem?_eq_some_iff.1 h2.2).1, h2.2, h2.1, ?_, ?_⟩
  · have := szs_total l
    have h4 := FM.scan_count _ _ _ _ _ _ _ h
    simp [FM.total] at h3 h4 this ⊢
    omega
  · have := FM.print_total l
    simp [FM.total] at h3 this ⊢
    omega
theorem back_again {l : List FM.Form} (h : FM.may l = true) {ms : List Int} (hm : ms.all RX.isSign = true) : scanAt (FM.print l ++ 47 :: ms) 0 = some (l, (FM.print l).length) := by
  have hsg : (FM.print l ++ 47 :: ms).all RX.isSign = true := by rw [List.all_append, FM.print_sign h]; simp [hm]; decide
  rw [scanAt_zero hsg]
  exact FM.scan_print h ms

set_option maxRecDepth 100000 in
set_option maxHeartbeats 2000000 in
theorem formBack_any (ts ms : List Int) (va vb : Value) (w : World) (ha : SlI w va ts) (hb : SlC w vb ms) (hml : ms.length ≤ 35184372087808) : Calls Tryd.prog 5 #[va, vb] w (Ret (.bool true) w) := by
  obtain ⟨A, c, rfl, hlc, hcm, -⟩ := id ha
  have HCL := Lib.hid (clean_any ms vb w hb (by omega))
  have HA := Lib.hid ha
  obtain ⟨A', c', rfl, -⟩ := id hb
  clear ha hb
  go_enter Tryd.func5, Tryd.ntmps5
  go_wp2_with fail
  refine HCL.out.mono ?_
  rintro e w1 ⟨v1, rfl, hv1, hE1⟩
  have hcs := clean_sign ms
  have hcl := clean_len ms
  generalize cleanL ms = cs at hv1 hcs hcl
  obtain ⟨A1, c1, rfl, -⟩ := hv1.form
  have he1 : Ten w1 w1.heap.size (.slice A ts.length c) ts (w1.alloc (.cells #[.slice A ts.length c, .int .i64 0] 26)) 0 :=
    ⟨HA.out.ext hE1, Nat.le_refl _, (Ext.refl w1).alloc _, heap_alloc_new w1 _, Nat.zero_le _⟩
  have HF := Lib.hid (format_any _ _ he1)
  have HV1 := Lib.hid hv1.sl
  have HE1 := Lib.hid hE1
  have hcl2 : cs.length ≤ 35184372087808 := by omega
  have HCS := Lib.hid hcs
  clear he1 hv1 hE1 HCL hcs hcl
  go_wp2_with fail
  refine HF.out.mono ?_
  rintro e w2 ⟨v2, rfl, hv2, -, ho2⟩
  have hE2 : Ext w1 w2 := ((Ext.refl w1).alloc _).only ho2 (Nat.le_refl _)
  have hfl := (TP.fmt_ok (ts := ts) (Nat.zero_le _)).2.2
  have hfs := TP.fmt_scan (ts := ts) (i := 0) (Nat.zero_le _)
  generalize (TP.fmt ts 0).1 = f at hv2 hfl hfs
  obtain ⟨A2, c2, rfl, -⟩ := hv2.form
  have HO2 := Lib.hid hv2
  have HE2 := Lib.hid hE2
  have HBF := Lib.hid (back_facts hfs.1 hfl hfs.2)
  have hw12 : w1.heap.size + 1 ≤ w2.heap.size := by have := World.grownBy.size ho2; simp at this; omega
  clear hv2 hE2 ho2 hfs HF
  go_upto_region 3 with (at_builtin; go_loud (refine app_i32 rfl _ _ rfl (w1.heap.size + 1) _ f [47] HO2.out.allocs rfl ⟨w2.heap.size, 0, none⟩ 1 1 rfl rfl (one_cells rfl) ?hn ?hB ?_; (case hn => (simp only [List.length_cons, List.length_nil]; omega)); (case hB => (simp; omega)); intro v3 w3 h1 h2; have hE3 : Ext w1 w3 := (HE2.out.alloc _).grown h2 (fun k hk => Nat.le_trans (Nat.le_succ _) (HO2.out.lt k hk).1); generalize hl : f ++ [47] = s at h1; have HL := Lib.hid hl; obtain ⟨A3, c3, rfl, -⟩ := h1.form; have HO3 := Lib.hid h1.sl; have HE3 := Lib.hid hE3; clear h1 h2 hl hE3))
  obtain ⟨l, j, hsc, hjl, hj47, hmay, hsz, hpl⟩ := HBF.out
  have hl := HL.out
  rw [hl] at hsc hjl hj47
  have hsl : s.length ≤ 52 := by rw [← hl, List.length_append]; simp; omega
  have HSC := Lib.hid hsc
  have HMAY := Lib.hid hmay
  clear hl hsc hmay HBF
  go_upto_region 4 with (go_at_call 21; go_loud (refine (scan_any s _ 0 w3 (SlB.slc HO3.out) (by omega) (.inl (by omega))).mono ?_; rw [HSC.out]; rintro e w4 ⟨hE4, ⟨l', j', Al, cl, hq, rfl, hlv⟩ | ⟨hq, -⟩⟩; rotate_left; (exact absurd hq (by simp)); injection hq with hq; injection hq with hq1 hq2; subst hq1 hq2; have HV4 := Lib.hid hlv; have HE4 := Lib.hid hE4; clear hlv hE4))
  have hjs : s[j] = 47 := (List.getElem?_eq_some_iff.1 hj47).2
  obtain ⟨b, o, hA3, hc47⟩ := ((SlB.slc HO3.out).ext HE4.out).at_ hjl
  subst hA3
  rw [hjs] at hc47
  have hge : decide ((s.length : Int) ≤ (j : Int)) = false := by simp; omega
  have hjl2 : (j : Int) < s.length := by omega
  clear hj47 hjs
  have HP := Lib.hid (print_any l _ _ w4 HV4.out (by omega))
  go_upto_region 7 with (go_at_call 14; go_loud (refine HP.out.mono ?_; rintro e w5 ⟨hE5, ⟨-, A5, c5, rfl, hp⟩ | ⟨hq, -⟩⟩; rotate_left; (exact absurd (hq.symm.trans HMAY.out) (by simp)); have HP5 := Lib.hid hp; have HE5 := Lib.hid hE5; clear hp hE5))
  have HAG := Lib.hid (back_again HMAY.out HCS.out)
  generalize FM.print l = q at HP5 hpl HAG ⊢
  have hX5 : Ext w1 w5 := (HE3.out.trans HE4.out).trans HE5.out
  have HVC := Lib.hid (HV1.out.keep (keeps_c []) (KeepT.of_ext hX5) (KeepT.of_ext hX5))
  have HX5 := Lib.hid hX5
  have HNIL := Lib.hid (show OwnB 21 1 Cc w5.heap.size w5 (.slice none 0 0) ([] : List Int) from OwnB.nil_)
  have tok1 : True := trivial
  have tok2 : True := trivial
  clear hX5 hge hjl2 hc47 hjl
  go_upto_region 8 with (first
    | (at_builtin; have _t := tok1; go_loud (refine app_src rfl _ _ rfl w5.heap.size _ (.slice none 0 0) _ [] q HNIL.out rfl rfl HP5.out.sl ?hn ?hB ?_; (case hn => (simp only [List.length_nil]; omega)); (case hB => exact Nat.le_refl _); intro v6 w6 h1 h2; have hE6 : Ext w5 w6 := (Ext.refl w5).grown h2 (fun k hk => (HNIL.out.lt k hk).1); rw [List.nil_append] at h1; obtain ⟨A6, c6, rfl, -⟩ := h1.form; have HO6 := Lib.hid h1; have HE6 := Lib.hid hE6; clear h1 h2 hE6; clear tok1 _t))
    | (at_builtin; have _t := tok2; go_loud (refine app_i32 rfl _ _ rfl w5.heap.size _ q [47] HO6.out.allocs rfl ⟨w6.heap.size, 0, none⟩ 1 1 rfl rfl (one_cells rfl) ?hn ?hB ?_; (case hn => (simp only [List.length_cons, List.length_nil]; omega)); (case hB => exact Nat.le_trans HE6.out.size (by simp)); intro v7 w7 h1 h2; have hE7 : Ext w5 w7 := (HE6.out.alloc _).grown h2 (fun k hk => (HO6.out.lt k hk).1); generalize hl : q ++ [47] = q2 at h1; have hq2 : q2.length ≤ 521 := (by rw [← hl, List.length_append]; simp only [List.length_cons, List.length_nil]; omega); have HL7 := Lib.hid hl; obtain ⟨A7, c7, rfl, -⟩ := h1.form; have HO7 := Lib.hid h1; have HE7 := Lib.hid hE7; have HVC7 := Lib.hid (HVC.out.keep (keeps_c []) (KeepT.of_ext hE7) (KeepT.of_ext hE7)); clear h1 h2 hE7 hl; clear tok2 _t))
    | (at_builtin; go_loud (refine app_src rfl _ _ rfl w5.heap.size _ (.slice A7 q2.length c7) _ q2 cs HO7.out rfl rfl HVC7.out ?hn ?hB ?_; (case hn => omega); (case hB => exact HE7.out.size); intro v8 w8 h1 h2; have hE8 : Ext w5 w8 := HE7.out.grown h2 (fun k hk => (HO7.out.lt k hk).1); generalize hl : q2 ++ cs = q3 at h1; have hq3 : q3.length ≤ 35184372088832 := (by rw [← hl, List.length_append]; omega); have HL8 := Lib.hid (show q3 = q ++ 47 :: cs from (by rw [← hl, ← HL7.out]; simp)); obtain ⟨A8, c8, rfl, -⟩ := h1.form; have HO8 := Lib.hid h1; have HE8 := Lib.hid hE8; clear h1 h2 hE8 hl))
    | (go_at_call 21; go_loud (have hag : scanAt q3 0 = some (l, q.length) := (by rw [HL8.out]; exact HAG.out); refine (scan_any q3 _ 0 _ (SlB.slc HO8.out.sl) hq3 (.inr ⟨l, q.length, hag, by omega⟩)).mono ?_; rw [hag]; rintro e w9 ⟨hE9, ⟨l', j', Am, cm, hq, rfl, hlv⟩ | ⟨hq, -⟩⟩; rotate_left; (exact absurd hq (by simp)); injection hq with hq; injection hq with hq1 hq2; subst hq1 hq2; have HV9 := Lib.hid hlv; have HE9 := Lib.hid (HE8.out.trans hE9); clear hlv hE9 hag)))
  have hX9 := HE5.out.trans HE9.out
  have HSF := Lib.hid (sameforms_any l _ _ _ _ w9 (HV4.out.keep (keeps_cff _) (KeepT.of_ext hX9) (KeepT.of_ext hX9)) HV9.out)
  have HKN := Lib.hid known11_any
  have HXA := Lib.hid ((HE1.out.trans HX5.out).trans HE9.out)
  clear hX9
  go_wp2_with (first
    | (go_at_call 22; go_loud (refine HSF.out.mono ?_; rintro e w10 ⟨rfl, hE10⟩))
    | (go_at_call 11; go_loud (refine (HKN.out _).mono ?_; rintro e w11 ⟨rfl, hE11⟩)))
  go_ret
  exact ⟨rfl, (HXA.out.trans hE10).trans hE11⟩
end Go.Proofs.YtfblkahjefdmaaaDoor
