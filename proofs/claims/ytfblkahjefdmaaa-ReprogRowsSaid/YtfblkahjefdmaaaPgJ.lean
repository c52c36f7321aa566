/- Walk: the law ReprogRows. -/
import Derived.Test.YtfblkahjefdmaaaSiR
import Derived.Test.YtfblkahjefdmaaaPgD
import Derived.Test.YtfblkahjefdmaaaPat
import Derived.Test.YtfblkahjefdmaaaPureB
namespace Go.Proofs.Ytfblkahjefdmaaa
open Go.RowKit

theorem info_in : (Try.prog.info? 53).map (fun i => (i.zero, i.size, i.bytes)) = some (some (.agg #[.int .i64 0, .int .i64 0, .int .i64 0, .bool false, .slice none 0 0]), 5, 56) := by kernel_rfl
set_option maxRecDepth 100000 in
set_option maxHeartbeats 4000000 in
theorem reprogRows_any (ts us : List Int) (va vb : Value) (w : World) (ha : SlI w va ts) (hb : SlI w vb us) : Calls Try.prog 7 #[va, vb] w (Ret (.bool true) w) := by
  obtain ⟨A, c, rfl, hlc, hcm, -⟩ := id ha
  obtain ⟨A', c', rfl, hlc', hcm', -⟩ := id hb
  have he0 : Ten w w.heap.size (.slice A ts.length c) ts (w.alloc (.cells #[.slice A ts.length c, .int .i64 0] 26)) 0 :=
    ⟨ha, Nat.le_refl _, (Ext.refl w).alloc _, heap_alloc_new w _, Nat.zero_le _⟩
  have HP := Lib.hid (pat_c1 _ _ he0)
  have HB := Lib.hid hb
  have HK := Lib.hid known9_any
  clear he0 ha hb
  go_enter Try.func7, Try.ntmps7
  go_wp2_with fail
  refine HP.out.mono ?_
  rintro e w1 ⟨v1, rfl, hv1, -, ho1⟩
  have hE1 : Ext w w1 := ((Ext.refl w).alloc _).only ho1 (Nat.le_refl _)
  have HRP := Lib.hid (RX.pat_row ts 1 0)
  generalize hp0 : (TP.pat ts 1 0).1 = p at hv1 HRP
  have hpl : p.length ≤ 400 := by rw [← hp0]; exact Nat.le_trans (TP.pat1_ok ts 0 (Nat.zero_le _)).2 (by decide)
  obtain ⟨A1, c1, rfl, -⟩ := hv1.form
  have HV1 := Lib.hid hv1.slc
  have HE1 := Lib.hid hE1
  clear hv1 ho1 HP hp0
  have he1 : Ten w1 w1.heap.size (.slice A' us.length c') us (w1.alloc (.cells #[.slice A' us.length c', .int .i64 0] 26)) 0 :=
    ⟨HB.out.ext hE1, Nat.le_refl _, (Ext.refl w1).alloc _, heap_alloc_new w1 _, Nat.zero_le _⟩
  have HP := Lib.hid (pat_c0 _ _ he1)
  clear he1 hE1
  go_wp2_with fail
  refine HP.out.mono ?_
  rintro e w2 ⟨v2, rfl, hv2, -, ho2⟩
  have hE2 : Ext w1 w2 := ((Ext.refl w1).alloc _).only ho2 (Nat.le_refl _)
  have HRQ := Lib.hid (RX.pat_row us 0 0)
  generalize hq0 : (TP.pat us 0 0).1 = q at hv2 HRQ
  have hql : q.length ≤ 400 := by rw [← hq0]; exact Nat.le_trans (TP.pat0_ok us 0 (Nat.zero_le _)).2 (by decide)
  obtain ⟨A2, c2, rfl, -⟩ := hv2.form
  have HV2 := Lib.hid hv2.slc
  have HE2 := Lib.hid (HE1.out.trans hE2)
  have HV1 := Lib.hid (HV1.out.ext hE2)
  clear hv2 ho2 HP hE2 HE1 HB hq0
  by_cases h60 : 60 < p.length + q.length
  · have hd : decide ((60 : Int) < (p.length : Int) + (q.length : Int)) = true := by simp; omega
    go_wp2_with (go_at_call 28; go_loud (refine (HK.out _).mono ?_; rintro e w3 ⟨rfl, hE3⟩))
    go_ret
    exact ⟨rfl, HE2.out.trans hE3⟩
  have hd : decide ((60 : Int) < (p.length : Int) + (q.length : Int)) = false := by simp; omega
  go_wp2_with fail
  refine (pcompile_any p _ _ HV1.out).mono ?_
  rintro e w3 ⟨hE3, v3, rfl, hX3⟩
  obtain ⟨R3, hR3⟩ : ∃ R, PG.compile p = R := ⟨_, rfl⟩
  rw [hR3] at hX3 ⊢
  obtain ⟨la, ca, pa⟩ := R3
  dsimp only at hX3 ⊢
  obtain ⟨A3, c3, rfl, hlc3, hcm3⟩ := hX3.form
  have hx3 := hE3.alloc (.cells #[.int .i64 ca, .int .i64 pa] 36)
  have f3 : (w3.alloc (.cells #[.int .i64 ca, .int .i64 pa] 36)).cell? ⟨w3.heap.size, 0, none⟩ = some (.int .i64 ca) := by rw [World.cell?_alloc_new]; rfl
  have HI3 := Lib.hid (InsT.ext (SlX.insT hX3) ((Ext.refl w3).alloc (.cells #[.int .i64 ca, .int .i64 pa] 36)))
  have HE4 := Lib.hid (HE2.out.trans hx3)
  have HV4 := Lib.hid (HV2.out.ext hx3)
  have HU4 := Lib.hid (HV1.out.ext hx3)
  have HR3 := Lib.hid hR3
  clear hE3 hX3 hx3 hR3 HE2 HV2 HV1
  go_upto_region 5 with fail
  generalize w3.alloc _ = w4 at f3 HI3 HE4 HV4 HU4 ⊢
  generalize w3.heap.size = fa at f3 ⊢
  go_wp2_with fail
  refine (pcompile_any q _ _ HV4.out).mono ?_
  rintro e w5 ⟨hE5, v5, rfl, hX5⟩
  obtain ⟨R5, hR5⟩ : ∃ R, PG.compile q = R := ⟨_, rfl⟩
  rw [hR5] at hX5 ⊢
  obtain ⟨lb, cb, pb⟩ := R5
  dsimp only at hX5 ⊢
  obtain ⟨A5, c5, rfl, hlc5, hcm5⟩ := hX5.form
  have hx5 := hE5.alloc (.cells #[.int .i64 cb, .int .i64 pb] 36)
  have f5 : (w5.alloc (.cells #[.int .i64 cb, .int .i64 pb] 36)).cell? ⟨w5.heap.size, 0, none⟩ = some (.int .i64 cb) := by rw [World.cell?_alloc_new]; rfl
  replace f3 := hx5.cell f3
  have HI3 := Lib.hid (InsT.ext HI3.out hx5)
  have HE6 := Lib.hid (HE4.out.trans hx5)
  have HV6 := Lib.hid (HV4.out.ext hx5)
  have HU6 := Lib.hid (HU4.out.ext hx5)
  have HR5 := Lib.hid hR5
  clear hE5 hX5 hx5 hR5 HE4 HV4 HU4
  go_upto_region 6 with fail
  generalize w5.alloc _ = w6 at f3 f5 HI3 HE6 HV6 HU6 ⊢
  generalize w5.heap.size = fb at f5 ⊢
  go_wp2_with fail
  refine (rjoin_any p q _ _ _ HU6.out HV6.out (by omega)).mono ?_
  rintro e w7 ⟨v7, rfl, ho7, hE7⟩
  obtain ⟨A7, c7, rfl, -, -⟩ := ho7.form
  have HV7 := Lib.hid (SlB.slc ho7.sl)
  have HE7 := Lib.hid hE7
  generalize hpq : p ++ q = pq at HV7
  have HPQ := Lib.hid hpq
  clear ho7 hE7 hpq
  go_wp2_with fail
  refine (pcompile_any pq _ _ HV7.out).mono ?_
  rintro e w8 ⟨hE8, v8, rfl, hX8⟩
  obtain ⟨R8, hR8⟩ : ∃ R, PG.compile pq = R := ⟨_, rfl⟩
  rw [hR8] at hX8 ⊢
  obtain ⟨lc, cc, pc⟩ := R8
  dsimp only at hX8 ⊢
  obtain ⟨A8, c8, rfl, hlc8, hcm8⟩ := hX8.form
  have hx8 := HE7.out.trans (hE8.alloc (.cells #[.int .i64 cc, .int .i64 pc] 36))
  have f8 : (w8.alloc (.cells #[.int .i64 cc, .int .i64 pc] 36)).cell? ⟨w8.heap.size, 0, none⟩ = some (.int .i64 cc) := by rw [World.cell?_alloc_new]; rfl
  replace f3 := hx8.cell f3
  replace f5 := hx8.cell f5
  have HI3 := Lib.hid (InsT.ext HI3.out hx8)
  have HI8 := Lib.hid (InsT.ext (SlX.insT hX8) ((Ext.refl w8).alloc (.cells #[.int .i64 cc, .int .i64 pc] 36)))
  have HE9 := Lib.hid (HE6.out.trans hx8)
  have HR8 := Lib.hid hR8
  clear hE8 hX8 hx8 hR8 HE6 HV6 HU6 HE7 HV7
  go_upto_region 7 with fail
  generalize w8.alloc _ = w9 at f3 f5 f8 HI3 HI8 HE9 ⊢
  generalize w8.heap.size = fc at f8 ⊢
  have hlen : ∀ {s : List Int} {l : List PG.Inst} {x : Int}, PG.compile s = (l, 0, x) → 3 ≤ l.length ∧ l.length ≤ 300 := fun h => by
    obtain ⟨t, e, -, hm, -⟩ := PG.compile_made h
    have := hm.len
    have := hm.pos
    have := hm.le
    omega
  by_cases hgo : ca = 0 ∧ cb = 0 ∧ cc = 0
  rotate_left
  · have hcc : (cc != 0) = true ∨ ((cc != 0) = false ∧ decide ((3 : Int) ≤ (lc.length : Int)) = true) := by
      by_cases h : cc = 0
      · subst h
        have := (hlen HR8.out).1
        exact .inr ⟨rfl, by simp; omega⟩
      · exact .inl (by simpa using h)
    have hor : (ca != 0) = true ∨ ((ca != 0) = false ∧ (cb != 0) = true) ∨ ((ca != 0) = false ∧ (cb != 0) = false ∧ (cc != 0) = true) := by
      by_cases h1 : ca = 0
      · by_cases h2 : cb = 0
        · exact .inr (.inr ⟨by simp [h1], by simp [h2], by simpa using fun h => hgo ⟨h1, h2, h⟩⟩)
        · exact .inr (.inl ⟨by simp [h1], by simpa using h2⟩)
      · exact .inl (by simpa using h1)
    clear hlen hgo
    rcases hcc with hc1 | ⟨hc1, hc2⟩ <;> rcases hor with ho | ⟨ho1, ho2⟩ | ⟨ho1, ho2, ho3⟩
    all_goals first
      | (exact absurd (hc1.symm.trans ho3) (by decide))
      | (go_wp2_with (go_at_call 28; go_loud (refine (HK.out _).mono ?_; rintro e w10 ⟨rfl, hE10⟩))
         go_ret
         exact ⟨rfl, HE9.out.trans hE10⟩)
  obtain ⟨rfl, rfl, rfl⟩ := hgo
  obtain ⟨na1, na2⟩ := hlen HR3.out
  obtain ⟨nb1, nb2⟩ := hlen HR5.out
  have hpq := HR8.out
  rw [← HPQ.out] at hpq
  obtain ⟨hl, hat⟩ := PG.rows_two HRP.out (HRQ.out.mono (by decide)) (by decide) HR3.out HR5.out hpq
  have hl1 : lc.length + 3 ≤ la.length + lb.length := by omega
  have hl2 : la.length + lb.length ≤ lc.length + 3 := by omega
  have HAT := Lib.hid hat
  clear hlen hpq hl hat HR3 HR5 HR8 HPQ HRP HRQ
  have HLA := Lib.hid (show la.length ≤ lc.length by omega)
  generalize hna : la.length = na at *
  generalize hnb : lb.length = nb at *
  generalize hnc : lc.length = nc at *
  have HNA := Lib.hid hna
  have HNC := Lib.hid hnc
  clear hna hnb hnc
  have t1 : decide ((na : Int) < 3) = false := by simp; omega
  have t2 : decide ((nb : Int) < 3) = false := by simp; omega
  have t3 : ((nc : Int) != (na : Int) + (nb : Int) - 3) = false := by simp; omega
  go_wp2_with fail
  go_loopw [13] (fun x wr => ∃ k : Nat, k ≤ na ∧ x = .int .i64 (k : Int) ∧ Ext w9 wr) (fun x _ => na - (intOf x).toNat)
  case atStart => exact ⟨0, Nat.zero_le _, rfl, Ext.refl _⟩
  case round =>
    obtain ⟨k, hk, rfl, hx⟩ := hrel
    have HX := Lib.hid hx
    by_cases hlt : k + 2 < na
    rotate_left
    · have hd2 : decide ((k : Int) < (na : Int) - 2) = false := by simp; omega
      clear hx
      go_wp2_with (go_at_call 28; go_loud (refine (HK.out _).mono ?_; rintro e w10 ⟨rfl, hE10⟩))
      go_ret
      exact ⟨rfl, (HE9.out.trans HX.out).trans hE10⟩
    have hd2 : decide ((k : Int) < (na : Int) - 2) = true := by simp; omega
    obtain ⟨i0, hi, hz0, hz1, hz2⟩ := info_parts info_in
    have hla := HLA.out
    have hsl := fun W => run_sl_both (P := Try.prog) Try.underlying48 hi A3 (n := na) (c := c3) (k := k) (m := k + 1) (Nat.le_add_right k 1) (by omega) W
    have hsl2 := fun W => run_sl_both (P := Try.prog) Try.underlying48 hi A8 (n := nc) (c := c8) (k := k) (m := k + 1) (Nat.le_add_right k 1) (by omega) W
    rw [hz1] at hsl hsl2
    simp only [Int.natCast_add, Int.cast_ofNat_Int, Nat.add_sub_cancel_left] at hsl hsl2
    have hat := HAT.out k (by omega)
    have hka : k < la.length := by rw [HNA.out]; omega
    have hkc : k < lc.length := by rw [HNC.out]; omega
    have ha1 := SlR.cut3 (InsT.ext HI3.out hx) (i := k) (m := k + 1) (by omega) (by omega)
    have hc1 := SlR.cut3 (InsT.ext HI8.out hx) (i := k) (m := k + 1) (by omega) (by omega)
    rw [List.getElem?_eq_getElem hka, List.getElem?_eq_getElem hkc] at hat
    replace hat := Option.some.inj hat
    have hta : (la.drop k).take (k + 1 - k) = [la[k]] := by rw [List.drop_eq_getElem_cons hka, show k + 1 - k = 1 by omega]; rfl
    have htc : (lc.drop k).take (k + 1 - k) = [la[k]] := by rw [List.drop_eq_getElem_cons hkc, show k + 1 - k = 1 by omega, hat]; rfl
    rw [hta] at ha1
    rw [htc] at hc1
    rw [Nat.add_sub_cancel_left] at ha1 hc1
    have HSA := Lib.hid ha1
    have HSC := Lib.hid hc1
    have ew : IntKind.i64.wrap ((k : Int) + 1) = (k : Int) + 1 := IntWalk.i64_in _ (by omega)
    obtain ⟨xi, hxi⟩ : ∃ xi, la[k] = xi := ⟨_, rfl⟩
    rw [hxi] at HSA HSC
    clear ha1 hc1 hta htc hat hxi hka hkc hx hla
    go_upto_region 14 with fail
    go_region_with (go_at_call 30; go_loud (refine (sameinst_any [xi] _ _ _ (InsT.ext HSA.out (Ext.refl _).drew) (InsT.ext HSC.out (Ext.refl _).drew) (by simp)).mono ?_; rintro e w10 ⟨rfl, hE10⟩))
    all_goals (clear hsl hsl2 ew; go_wp2_with fail; go_roundw; (case rel => exact ⟨k + 1, by omega, by go_num, (HX.out.drew).trans hE10⟩); (case measure => (simp [intOf]; omega)))
end Go.Proofs.Ytfblkahjefdmaaa
