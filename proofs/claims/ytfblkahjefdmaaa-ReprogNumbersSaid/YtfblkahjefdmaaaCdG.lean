/- Walk: same of law 9. -/
import Derived.Test.YtfblkahjefdmaaaCdF
import Derived.Test.YtfblkahjefdmaaaSmA
namespace Go.Proofs.Ytfblkahjefdmaaa
open Go.RowKit

theorem keepsB_icw (B : Nat) : KeepsB B (IcW B) := fun _ _ _ _ hk ⟨vs, h1, h2⟩ => ⟨vs, h1, h2.keepB (keepsB_c B) hk⟩
/-- Instructions whose kinds and sets may be written over. -/
structure Spi (B T : Nat) (A : Option Addr) (n : Nat) (w wr : World) : Prop where
  rng : Rng B T w wr
  cells : ∀ j, j < n → ∃ g o cur v k, A = some ⟨g, o, none⟩ ∧ B ≤ g ∧ g < T ∧ wr.heap[g]? = some (.cells cur 53 (0, 0)) ∧ cur[o + j * 5 + 4]? = some v ∧ cur[o + j * 5]? = some k ∧ Shp B T wr v
theorem Spi.start {B : Nat} {A : Option Addr} {c : Nat} {l : List PG.Inst} {w w2 : World} (h : SlX B w (.slice A l.length c) l) (hx : Ext w w2) : Spi B w.heap.size A l.length w2 w2 := by
  refine ⟨Rng.refl _ _ _, fun j hj => ?_⟩
  obtain ⟨A', c', e, hl, hc, hn, ha⟩ := h
  injection e with e1 _ e3
  subst e1 e3
  rcases A with _ | ad
  · have := hn rfl; omega
  obtain ⟨g, o, cur, rfl, hb, hg, hk⟩ := ha ad rfl
  obtain ⟨cs, hcr, hcell⟩ := hk j l[j] (List.getElem?_eq_getElem hj)
  obtain ⟨sv, rfl, hs⟩ := hcr
  have h4 := hcell 4 _ rfl
  have h0 := hcell 0 _ rfl
  rw [cell_of_row w g _ cur _ _ hg] at h4 h0
  exact ⟨g, o, cur, sv, .int .i64 l[j].op, rfl, hb, heap_lt hg, hx.heap hg, h4, by rwa [Nat.add_zero] at h0, (Shp.of hs).ext hx⟩
theorem Spi.spoil {B T n : Nat} {A : Option Addr} {w wr wr' : World} (h : Spi B T A n w wr) (hs : Spo B T wr wr') : Spi B T A n w wr' := by
  refine ⟨h.rng.trans hs.rng, fun j hj => ?_⟩
  obtain ⟨g, o, cur, v, k, h1, h2, h3, h4, h5, h6, h7⟩ := h.cells j hj
  exact ⟨g, o, cur, v, k, h1, h2, h3, hs.oth g cur _ (by decide) h4, h5, h6, h7.spo hs.row⟩
theorem Spi.kind {B T n g o j : Nat} {w wr : World} {u : Value} (h : Spi B T (some ⟨g, o, none⟩) n w wr) (hj : j < n) : Spi B T (some ⟨g, o, none⟩) n w (wr.setCell ⟨g, o + j * 5, none⟩ u) := by
  obtain ⟨g0, o0, cur0, _, _, h1, h2, h3, h40, _, h60, _⟩ := h.cells j hj
  injection h1 with h1
  injection h1 with e1 e2 _
  subst e1 e2
  refine ⟨h.rng.trans (Rng.set _ _ h2 h3), fun i hi => ?_⟩
  obtain ⟨g1, o1, cur, v, k, h1, _, _, h4, h5, h6, h7⟩ := h.cells i hi
  injection h1 with h1
  injection h1 with e1 e2 _
  subst e1 e2
  have hsh : Shp B T (wr.setCell ⟨g, o + j * 5, none⟩ u) v := h7.spo fun g2 cur2 hg2 => by
    have hne : g2 ≠ g := by
      intro e
      subst e
      rw [h4] at hg2
      injection hg2 with hg2
      injection hg2 with _ hg2 _
      revert hg2
      decide
    exact ⟨cur2, by rw [heap_nS hne]; exact hg2, rfl⟩
  rcases Nat.lt_trichotomy i j with hij | rfl | hij
  · exact ⟨g, o, _, v, k, rfl, h2, h3, heap_set h4, by rw [Array.getElem?_setIfInBounds_ne (by omega)]; exact h5, by rw [Array.getElem?_setIfInBounds_ne (by omega)]; exact h6, hsh⟩
  · have hb : o + i * 5 < cur.size := (Array.getElem?_eq_some_iff.1 h6).1
    exact ⟨g, o, _, v, u, rfl, h2, h3, heap_set h4, by rw [Array.getElem?_setIfInBounds_ne (by omega)]; exact h5, by simp [hb], hsh⟩
  · exact ⟨g, o, _, v, k, rfl, h2, h3, heap_set h4, by rw [Array.getElem?_setIfInBounds_ne (by omega)]; exact h5, by rw [Array.getElem?_setIfInBounds_ne (by omega)]; exact h6, hsh⟩
namespace PG
theorem compile_few (s : List Int) : (compile s).1.length ≤ 300 := by
  obtain ⟨R, hR⟩ : ∃ R, compile s = R := ⟨_, rfl⟩
  obtain ⟨l, c, a⟩ := R
  rw [hR]
  by_cases hc : c = 0
  · subst hc
    obtain ⟨t, e, hp, hm, -⟩ := compile_made hR
    have := hm.len
    have := hm.le
    show l.length ≤ 300
    omega
  · have := compile_bad hR hc
    subst this
    exact Nat.zero_le _
end PG
set_option maxRecDepth 100000 in
set_option maxHeartbeats 2000000 in
theorem same9_any (p : List Int) (v : Value) (w : World) (hv : SlC w v p) (hp : p.length ≤ 35184372088000) (hok : PG.okp p = true) : Calls Try.prog 25 #[v] w (Ret (.bool true) w) := by
  have HV := Lib.hid hv
  obtain ⟨A, c, rfl, -, -, -⟩ := id hv
  obtain ⟨P, hP⟩ : ∃ x, PG.compile p = x := ⟨_, rfl⟩
  have hll := PG.compile_few p
  rw [hP] at hll
  obtain ⟨l, code, bat⟩ := P
  dsimp only at hll
  have HP := Lib.hid hP
  have HOK := Lib.hid hok
  have hpp := hp
  clear hv hP hok
  go_enter Try.func25, Try.ntmps25
  go_upto_region 2 with (go_at_call 55; go_loud (refine (lend_any p _ _ HV.out hpp).mono ?_; rintro e w1 ⟨hx, g, c1, rfl, hc1, hown⟩; have HX1 := Lib.hid hx; have HW1 := Lib.hid hown.sl; have HS1 := Lib.hid (SlC.front (xs := p) (SlB.slc (by simpa using hown.sl))); clear hx hown))
  go_upto_region 3 with (go_at_call 29; go_loud (refine (pcompile_any p _ w1 HS1.out).mono ?_; rintro e w2 ⟨hx, v2, rfl, hv2⟩; rw [HP.out] at hv2 ⊢; dsimp only at hv2 ⊢; have HX2 := Lib.hid hx; have HL := Lib.hid hv2; obtain ⟨A2, c2, rfl, -⟩ := hv2.form; clear hv2 hx))
  have HX3 := Lib.hid (show Ext w2 (w2.alloc (.cells #[.int .i64 code, .int .i64 bat] 36)) from (Ext.refl _).alloc _)
  have HB3 := Lib.hid (heap_alloc_new w2 (.cells #[.int .i64 code, .int .i64 bat] 36))
  obtain ⟨f3, hf3⟩ : ∃ x, w2.heap.size = x := ⟨_, rfl⟩
  rw [hf3] at HB3
  rw [hf3]
  generalize w2.alloc _ = w3 at HX3 HB3 ⊢
  clear hf3
  go_upto_region 4 with (go_at_call 65; go_loud (refine (rcompile_any p _ w3 (HV.out.ext (HX1.out.trans (HX2.out.trans HX3.out))) HOK.out).mono ?_; rintro e w4 ⟨hx, v4, rfl, hv4⟩; rw [HP.out] at hv4 ⊢; dsimp only at hv4 ⊢; have HX4 := Lib.hid hx; have HM := Lib.hid hv4; obtain ⟨A4, c4, rfl, -⟩ := hv4.form; clear hv4 hx))
  have HX5 := Lib.hid (show Ext w4 (w4.alloc (.cells #[.int .i64 code, .int .i64 bat] 36)) from (Ext.refl _).alloc _)
  have HB5 := Lib.hid (heap_alloc_new w4 (.cells #[.int .i64 code, .int .i64 bat] 36))
  obtain ⟨f5, hf5⟩ : ∃ x, w4.heap.size = x := ⟨_, rfl⟩
  rw [hf5] at HB5
  rw [hf5]
  generalize w4.alloc _ = w5 at HX5 HB5 ⊢
  clear hf5
  have HE5 := Lib.hid (HX4.out.trans HX5.out)
  have HE35 := Lib.hid (HX3.out.trans HE5.out)
  have HEW := Lib.hid (HX1.out.trans (HX2.out.trans HE35.out))
  have HB3' := Lib.hid (HE5.out.heap HB3.out)
  have a0 := cell_of_row _ f3 0 _ _ _ HB3'.out
  have a1 := cell_of_row _ f3 1 _ _ _ HB3'.out
  have b0 := cell_of_row _ f5 0 _ _ _ HB5.out
  have b1 := cell_of_row _ f5 1 _ _ _ HB5.out
  have HL5 := Lib.hid (InsT.ext (SlX.insT HL.out) HE35.out)
  have HM5 := Lib.hid (SlJ.ext HM.out HX5.out)
  have HV5 := Lib.hid (HV.out.ext HEW.out)
  have HW5 := Lib.hid (HW1.out.keep (keeps_c []) (KeepT.of_ext (HX2.out.trans HE35.out)) (KeepT.of_ext (HX2.out.trans HE35.out)))
  go_upto_region 6 with (first
    | (go_at_call 58; go_loud (refine (kept_any p _ _ g c1 w6 (HV5.out.ext HX6.out) (HW5.out.keep (keeps_c []) (KeepT.of_ext HX6.out) (KeepT.of_ext HX6.out))).mono ?_; rintro e w9 ⟨rfl, hx⟩; have HX9 := Lib.hid (HX6.out.trans hx); clear hx))
    | (go_at_call 30; go_loud (refine (sameinst_any l _ _ w5 HL5.out HM5.out.insT (by omega)).mono ?_; rintro e w6 ⟨rfl, hx⟩; have HX6 := Lib.hid hx; clear hx)))
  have HSP := Lib.hid (Spi.start HL.out (HE35.out.trans HX9.out))
  have HM9 := Lib.hid (SlJ.ext HM5.out HX9.out)
  have HEW9 := Lib.hid (HEW.out.trans HX9.out)
  have HB12 := Lib.hid (And.intro (Below.size HX1.out) (Below.size HX3.out))
  obtain ⟨B, hB⟩ : ∃ x, w1.heap.size = x := ⟨_, rfl⟩
  obtain ⟨T, hT⟩ : ∃ x, w2.heap.size = x := ⟨_, rfl⟩
  obtain ⟨M, hM⟩ : ∃ x, w3.heap.size = x := ⟨_, rfl⟩
  rw [hB, hT] at HSP
  rw [hM] at HM9
  rw [hB, hT, hM] at HB12
  clear a0 a1 b0 b1 hB hT hM
  go_wp2_with fail
  go_loopw [8, 40] (fun _ i wr => ∃ k : Nat, k ≤ l.length ∧ i = .int .i64 (k : Int) ∧ Spi B T A2 l.length w9 wr) (fun _ i _ => l.length - (intOf i).toNat)
  case atStart => exact ⟨0, Nat.zero_le _, rfl, HSP.out⟩
  case round =>
    obtain ⟨k, hk, rfl, hspl⟩ := hrel
    have HS := Lib.hid hspl
    by_cases hlt : k < l.length
    · obtain ⟨g9, o9, cur, vs, kv, rfl, hb, ht, hcur, h6, h0, hshp⟩ := hspl.cells k hlt
      have hki : (k : Int) < (l.length : Int) := by omega
      have hdk : decide ((k : Int) < (l.length : Int)) = true := decide_eq_true hki
      have c6 : wr.cell? ⟨g9, o9 + k * 5 + 4, none⟩ = some vs := by simp only [World.cell?, hcur]; exact h6
      have HSH := Lib.hid hshp
      clear hcur h6 h0 hshp hspl
      go_upto_region 10 with (go_at_call 46; go_loud (refine (kspoil_any B T _ _ HSH.out).mono ?_; rintro e wa ⟨rfl, hs⟩; have HSA := Lib.hid (HS.out.spoil hs); clear hs))
      obtain ⟨g8, o8, cur2, vs2, kv2, e8, -, -, hcur2, -, h02, -⟩ := HSA.out.cells k hlt
      injection e8 with e8
      injection e8 with e1 e2 _
      subst e1 e2
      have c0 : wa.cell? ⟨g9, o9 + k * 5, none⟩ = some kv2 := by simp only [World.cell?, hcur2]; exact h02
      have f0 : wa.frozen? ⟨g9, o9 + k * 5, none⟩ = false := frozen_of_row wa g9 _ _ _ hcur2
      clear c6 hcur2 h02
      go_wp2_with fail
      go_roundw
      case rel => exact ⟨k + 1, by omega, by go_num, HSA.out.kind hlt⟩
      case measure => simp [intOf]; omega
    · have hdk : decide ((k : Int) < (l.length : Int)) = false := by simp; omega
      have HER := Lib.hid (Rng.ext HEW9.out HS.out.rng HB12.out.1)
      have HMR := Lib.hid (HM9.out.keepB (keepsB_icw _) (fun g o hg ho => HS.out.rng.keepB g o (Nat.le_trans HB12.out.2 hg) ho))
      clear hspl
      go_upto_region 13 with (go_at_call 29; go_loud (refine (pcompile_any p _ wr (HV.out.ext HER.out)).mono ?_; rintro e wb ⟨hx, v2, rfl, hv2⟩; rw [HP.out] at hv2 ⊢; dsimp only at hv2 ⊢; have HXB := Lib.hid hx; have HLB := Lib.hid hv2; obtain ⟨A9, c9, rfl, -⟩ := hv2.form; clear hv2 hx))
      have HXC := Lib.hid (show Ext wb (wb.alloc (.cells #[.int .i64 code, .int .i64 bat] 36)) from (Ext.refl _).alloc _)
      generalize wb.alloc _ = wc at HXC ⊢
      have HLC := Lib.hid (InsT.ext (SlX.insT HLB.out) HXC.out)
      have HMC := Lib.hid (SlJ.ext HMR.out (HXB.out.trans HXC.out))
      go_wp2_with (go_at_call 30; go_loud (refine (sameinst_any l _ _ wc HLC.out HMC.out.insT (by omega)).mono ?_; rintro e wd ⟨rfl, hx⟩; have HXD := Lib.hid hx; clear hx))
      go_ret
      exact ⟨rfl, HER.out.trans (HXB.out.trans (HXC.out.trans HXD.out))⟩
end Go.Proofs.Ytfblkahjefdmaaa
