/- For ResynMadeS: what the texts XSmA XSmB of wip/tpl say. -/
import Derived.Test.YtpcdknfmgacggaaO
import Derived.Test.YtpcdknfmgacggaaQ
set_option maxRecDepth 100000
set_option maxHeartbeats 2000000
namespace Go.Proofs.Ytpcdknfmgacggaa
open Go.RowKit
/-- Nodes whose kinds and ranges may be written over. -/
structure Spl (B T : Nat) (A : Option Addr) (n : Nat) (w wr : World) : Prop where
  rng : Rng B T w wr
  cells : ∀ j, j < n → ∃ g o cur v k, A = some ⟨g, o, none⟩ ∧ B ≤ g ∧ g < T ∧ wr.heap[g]? = some (.cells cur 47 (0, 0)) ∧ cur[o + j * 7 + 6]? = some v ∧ cur[o + j * 7]? = some k ∧ Shp B T wr v
theorem Shp.ext {B T : Nat} {w w' : World} {v : Value} (h : Shp B T w v) (hx : Ext w w') : Shp B T w' v := h.spo fun _ cur hg => ⟨cur, hx.heap hg, rfl⟩
theorem Spl.start {B : Nat} {A : Option Addr} {c : Nat} {l : List RX.ReN} {w w2 : World} (h : SlRe B B w (.slice A l.length c) l) (hx : Ext w w2) : Spl B w.heap.size A l.length w2 w2 := by
  refine ⟨Rng.refl _ _ _, fun j hj => ?_⟩
  obtain ⟨A', c', e, hl, hc, hn, ha⟩ := h
  injection e with e1 _ e3
  subst e1 e3
  rcases A with _ | ad
  · have := hn rfl; omega
  obtain ⟨g, o, cur, rfl, hb, hg, hsz, hk⟩ := ha ad rfl
  obtain ⟨cs, hcr, hcell⟩ := hk j l[j] (List.getElem?_eq_getElem hj)
  obtain ⟨sv, rfl, hs⟩ := hcr
  exact ⟨g, o, cur, sv, .int .i64 l[j].kind, rfl, hb, heap_lt hg, hx.heap hg, hcell 6 _ rfl, by have := hcell 0 _ rfl; rwa [Nat.add_zero] at this, (Shp.of hs).ext hx⟩
theorem Spl.spoil {B T n : Nat} {A : Option Addr} {w wr wr' : World} (h : Spl B T A n w wr) (hs : Spo B T wr wr') : Spl B T A n w wr' := by
  refine ⟨h.rng.trans hs.rng, fun j hj => ?_⟩
  obtain ⟨g, o, cur, v, k, h1, h2, h3, h4, h5, h6, h7⟩ := h.cells j hj
  exact ⟨g, o, cur, v, k, h1, h2, h3, hs.oth g cur _ (by decide) h4, h5, h6, h7.spo hs.row⟩
theorem Spl.ext {B T n : Nat} {A : Option Addr} {w wr wr' : World} (h : Spl B T A n w wr) (hx : Ext wr wr') : Spl B T A n w wr' := by
  refine ⟨h.rng.trans (Rng.of_ext hx), fun j hj => ?_⟩
  obtain ⟨g, o, cur, v, k, h1, h2, h3, h4, h5, h6, h7⟩ := h.cells j hj
  exact ⟨g, o, cur, v, k, h1, h2, h3, hx.heap h4, h5, h6, h7.ext hx⟩
theorem Spl.kind {B T n g o j : Nat} {w wr : World} {u : Value} (h : Spl B T (some ⟨g, o, none⟩) n w wr) (hj : j < n) : Spl B T (some ⟨g, o, none⟩) n w (wr.setCell ⟨g, o + j * 7, none⟩ u) := by
  obtain ⟨g0, o0, cur0, _, _, h1, h2, h3, h40, _, h60, _⟩ := h.cells j hj
  injection h1 with h1
  injection h1 with e1 e2 _
  subst e1 e2
  refine ⟨h.rng.trans (Rng.set _ _ h2 h3), fun i hi => ?_⟩
  obtain ⟨g1, o1, cur, v, k, h1, _, _, h4, h5, h6, h7⟩ := h.cells i hi
  injection h1 with h1
  injection h1 with e1 e2 _
  subst e1 e2
  have hsh : Shp B T (wr.setCell ⟨g, o + j * 7, none⟩ u) v := h7.spo fun g2 cur2 hg2 => by
    have hne : g2 ≠ g := by
      intro e
      subst e
      rw [h4] at hg2
      injection hg2 with hg2
      injection hg2 with _ hg2 _
      revert hg2
      decide
    exact ⟨cur2, by rw [heap_nS hne]; exact hg2, rfl⟩
  rcases Nat.lt_trichotomy i j with hij | rfl | hij
  · exact ⟨g, o, _, v, k, rfl, h2, h3, heap_set h4, by rw [Array.getElem?_setIfInBounds_ne (by omega)]; exact h5, by rw [Array.getElem?_setIfInBounds_ne (by omega)]; exact h6, hsh⟩
  · have hb : o + i * 7 < cur.size := (Array.getElem?_eq_some_iff.1 h6).1
    exact ⟨g, o, _, v, u, rfl, h2, h3, heap_set h4, by rw [Array.getElem?_setIfInBounds_ne (by omega)]; exact h5, by simp [hb], hsh⟩
  · exact ⟨g, o, _, v, k, rfl, h2, h3, heap_set h4, by rw [Array.getElem?_setIfInBounds_ne (by omega)]; exact h5, by rw [Array.getElem?_setIfInBounds_ne (by omega)]; exact h6, hsh⟩
theorem parse_smallQ {s : List Int} {l : List RX.ReN} {c p : Int} (h : RX.parse s = (l, c, p)) : l.length ≤ 1000 := by
  unfold RX.parse at h
  split at h
  · injection h with h _; rw [← h]; exact Nat.zero_le _
  · rename_i hl
    split at h
    · injection h with h _; rw [← h]; exact Nat.zero_le _
    · simp only at h
      have hN := RX.altN_ok s 12 ⟨0, 0, 0, 0, 0⟩ rfl (Nat.zero_le _) (by decide)
      generalize RX.altN s 12 ⟨0, 0, 0, 0, 0⟩ = r at h hN
      have h1 : r.2.at_ ≤ s.length + 14 := hN.1.hi
      have h2 : r.1.length ≤ 1000 := Nat.le_trans hN.2.1 (by show 2 * (r.2.at_ - 0) + 2 ≤ 1000; omega)
      generalize (if r.2.ok = true ∧ r.2.at_ < s.length then r.2.fail 5 r.2.at_ else r.2) = st2 at h
      by_cases hok : st2.ok = true
      · rw [if_pos hok] at h; injection h with h _; rw [← h]; exact h2
      · rw [if_neg hok] at h; injection h with h _; rw [← h]; exact Nat.zero_le _
theorem same8_any (p : List Int) (v : Value) (w : World) (hv : SlC w v p) (hp : p.length ≤ 35184372088000) : Calls Try.prog 6 #[v] w (Ret (.bool true) w) := by
  have HV := Lib.hid hv
  obtain ⟨A, c, rfl, -, -, -⟩ := id hv
  obtain ⟨P, hP⟩ : ∃ x, RX.parse p = x := ⟨_, rfl⟩
  obtain ⟨l, code, bat⟩ := P
  have hll : l.length ≤ 1000 := parse_smallQ hP
  have HP := Lib.hid hP
  have hpp := hp
  clear hv hP
  go_enter Try.func6, Try.ntmps6
  go_upto_region 2 with (go_at_call 11; go_loud (refine (lend_any p _ _ HV.out hpp).mono ?_; rintro e w1 ⟨hx, g, c1, rfl, hc1, hown⟩; have HX1 := Lib.hid hx; have HW1 := Lib.hid hown.sl; have HS1 := Lib.hid (SlC.front (xs := p) (SlB.slc (by simpa using hown.sl))); clear hx hown))
  go_upto_region 3 with (go_at_call 12; go_loud (refine (parse_any p _ w1 HS1.out).mono ?_; rintro e w2 ⟨v2, u2, rfl, ⟨hv2, rfl⟩, hx⟩; rw [HP.out] at hv2 ⊢; have HX2 := Lib.hid hx; have HL := Lib.hid hv2; obtain ⟨A2, c2, rfl, -⟩ := hv2.form; clear hv2 hx))
  have HX3 := Lib.hid (show Ext w2 (w2.alloc (.cells #[.int .i64 code, .int .i64 bat] 39)) from (Ext.refl _).alloc _)
  have HB3 := Lib.hid (heap_alloc_new w2 (.cells #[.int .i64 code, .int .i64 bat] 39))
  obtain ⟨f3, hf3⟩ : ∃ x, w2.heap.size = x := ⟨_, rfl⟩
  have HF3 := Lib.hid hf3
  rw [hf3] at HB3
  rw [hf3]
  generalize w2.alloc _ = w3 at HX3 HB3 ⊢
  clear hf3
  go_upto_region 4 with (go_at_call 13; go_loud (refine (qparse_any p _ w3 (HV.out.ext (HX1.out.trans (HX2.out.trans HX3.out)))).mono ?_; rintro e w4 ⟨v4, u4, rfl, ⟨hv4, rfl⟩, hx⟩; rw [HP.out] at hv4 ⊢; have HX4 := Lib.hid hx; have HM := Lib.hid hv4; obtain ⟨A4, c4, rfl, -⟩ := hv4.form; clear hv4 hx))
  have HX5 := Lib.hid (show Ext w4 (w4.alloc (.cells #[.int .i64 code, .int .i64 bat] 39)) from (Ext.refl _).alloc _)
  have HB5 := Lib.hid (heap_alloc_new w4 (.cells #[.int .i64 code, .int .i64 bat] 39))
  obtain ⟨f5, hf5⟩ : ∃ x, w4.heap.size = x := ⟨_, rfl⟩
  rw [hf5] at HB5
  rw [hf5]
  generalize w4.alloc _ = w5 at HX5 HB5 ⊢
  clear hf5
  have HE5 := Lib.hid (HX4.out.trans HX5.out)
  have HE35 := Lib.hid (HX3.out.trans HE5.out)
  have HEW := Lib.hid (HX1.out.trans (HX2.out.trans HE35.out))
  have HB3' := Lib.hid (HE5.out.heap HB3.out)
  have a0 := cell_of_row _ f3 0 _ _ _ HB3'.out
  have a1 := cell_of_row _ f3 1 _ _ _ HB3'.out
  have b0 := cell_of_row _ f5 0 _ _ _ HB5.out
  have b1 := cell_of_row _ f5 1 _ _ _ HB5.out
  have HL5 := Lib.hid (HL.out.keep (keeps_re _) (KeepT.of_ext HE35.out) (KeepT.of_ext HE35.out))
  have HM5 := Lib.hid (HM.out.keep (keeps_re _) (KeepT.of_ext HX5.out) (KeepT.of_ext HX5.out))
  have HV5 := Lib.hid (HV.out.ext HEW.out)
  have HW5 := Lib.hid (HW1.out.keep (keeps_c []) (KeepT.of_ext (HX2.out.trans HE35.out)) (KeepT.of_ext (HX2.out.trans HE35.out)))
  have hga : ((RX.groups l : Nat) : Int) = (RX.groups l : Nat) := rfl
  clear hga
  go_upto_region 6 with (first
    | (go_at_call 14; go_loud (refine (samere_any l _ _ _ _ w5 HL5.out HM5.out (by omega)).mono ?_; rintro e w6 ⟨rfl, hx⟩; have HX6 := Lib.hid hx; have HL6 := Lib.hid (HL5.out.keep (keeps_re _) (KeepT.of_ext hx) (KeepT.of_ext hx)); clear hx))
    | (go_at_call 15; go_loud (refine (groups_any l _ _ w6 HL6.out (by omega)).mono ?_; rintro e w7 ⟨rfl, hx⟩; have HX7 := Lib.hid (HX6.out.trans hx); have HM7 := Lib.hid (HM5.out.keep (keeps_re _) (KeepT.of_ext HX7.out) (KeepT.of_ext HX7.out)); clear hx))
    | (go_at_call 16; go_loud (refine (qgroups_any l _ _ w7 HM7.out (by omega)).mono ?_; rintro e w8 ⟨rfl, hx⟩; have HX8 := Lib.hid (HX7.out.trans hx); have HV8 := Lib.hid (HV5.out.ext HX8.out); have HW8 := Lib.hid (HW5.out.keep (keeps_c []) (KeepT.of_ext HX8.out) (KeepT.of_ext HX8.out)); clear hx))
    | (go_at_call 17; go_loud (refine (kept_any p _ _ g c1 w8 HV8.out HW8.out).mono ?_; rintro e w9 ⟨rfl, hx⟩; have HX9 := Lib.hid (HX8.out.trans hx); clear hx)))
  have HSP := Lib.hid (Spl.start HL.out (HE35.out.trans HX9.out))
  have HM9 := Lib.hid (HM5.out.keep (keeps_re _) (KeepT.of_ext HX9.out) (KeepT.of_ext HX9.out))
  have HEW9 := Lib.hid (HEW.out.trans HX9.out)
  have HB12 := Lib.hid (And.intro (Below.size HX1.out) (Below.size HX3.out))
  obtain ⟨B, hB⟩ : ∃ x, w1.heap.size = x := ⟨_, rfl⟩
  obtain ⟨T, hT⟩ : ∃ x, w2.heap.size = x := ⟨_, rfl⟩
  obtain ⟨M, hM⟩ : ∃ x, w3.heap.size = x := ⟨_, rfl⟩
  rw [hB, hT] at HSP
  rw [hM] at HM9
  rw [hB, hT, hM] at HB12
  clear a0 a1 b0 b1 hB hT hM
  go_wp2_with fail
  go_loopw [8, 47] (fun _ i wr => ∃ k : Nat, k ≤ l.length ∧ i = .int .i64 (k : Int) ∧ Spl B T A2 l.length w9 wr) (fun _ i _ => l.length - (intOf i).toNat)
  case atStart => exact ⟨0, Nat.zero_le _, rfl, HSP.out⟩
  case round =>
    obtain ⟨k, hk, rfl, hspl⟩ := hrel
    have HS := Lib.hid hspl
    by_cases hlt : k < l.length
    · obtain ⟨g9, o9, cur, vs, kv, rfl, hb, ht, hcur, h6, h0, hshp⟩ := hspl.cells k hlt
      have hki : (k : Int) < (l.length : Int) := by omega
      have hdk : decide ((k : Int) < (l.length : Int)) = true := decide_eq_true hki
      have c6 : wr.cell? ⟨g9, o9 + k * 7 + 6, none⟩ = some vs := by simp only [World.cell?, hcur]; exact h6
      have HSH := Lib.hid hshp
      clear hcur h6 h0 hshp hspl
      go_upto_region 10 with (go_at_call 18; go_loud (refine (kspoil_any B T _ _ HSH.out).mono ?_; rintro e wa ⟨rfl, hs⟩; have HSA := Lib.hid (HS.out.spoil hs); clear hs))
      obtain ⟨g8, o8, cur2, vs2, kv2, e8, -, -, hcur2, -, h02, -⟩ := HSA.out.cells k hlt
      injection e8 with e8
      injection e8 with e1 e2 _
      subst e1 e2
      have c0 : wa.cell? ⟨g9, o9 + k * 7, none⟩ = some kv2 := by simp only [World.cell?, hcur2]; exact h02
      have f0 : wa.frozen? ⟨g9, o9 + k * 7, none⟩ = false := frozen_of_row wa g9 _ _ _ hcur2
      clear c6 hcur2 h02
      go_wp2_with fail
      go_roundw
      case rel => exact ⟨k + 1, by omega, by go_num, HSA.out.kind hlt⟩
      case measure => simp [intOf]; omega
    · have hdk : decide ((k : Int) < (l.length : Int)) = false := by simp; omega
      have HER := Lib.hid (Rng.ext HEW9.out HS.out.rng HB12.out.1)
      have HMR := Lib.hid (HM9.out.keepB (keepsB_re _) (fun g o hg ho => HS.out.rng.keepB g o (Nat.le_trans HB12.out.2 hg) ho))
      clear hspl
      go_upto_region 13 with (go_at_call 12; go_loud (refine (parse_any p _ wr (HV.out.ext HER.out)).mono ?_; rintro e wb ⟨v2, u2, rfl, ⟨hv2, rfl⟩, hx⟩; rw [HP.out] at hv2 ⊢; have HXB := Lib.hid hx; have HLB := Lib.hid hv2; obtain ⟨A9, c9, rfl, -⟩ := hv2.form; clear hv2 hx))
      have HXC := Lib.hid (show Ext wb (wb.alloc (.cells #[.int .i64 code, .int .i64 bat] 39)) from (Ext.refl _).alloc _)
      generalize wb.alloc _ = wc at HXC ⊢
      have HLC := Lib.hid (HLB.out.keep (keeps_re _) (KeepT.of_ext HXC.out) (KeepT.of_ext HXC.out))
      have HMC := Lib.hid (HMR.out.keep (keeps_re _) (KeepT.of_ext (HXB.out.trans HXC.out)) (KeepT.of_ext (HXB.out.trans HXC.out)))
      go_wp2_with (go_at_call 14; go_loud (refine (samere_any l _ _ _ _ wc HLC.out HMC.out (by omega)).mono ?_; rintro e wd ⟨rfl, hx⟩; have HXD := Lib.hid hx; clear hx))
      go_ret
      exact ⟨rfl, HER.out.trans (HXB.out.trans (HXC.out.trans HXD.out))⟩
end Go.Proofs.Ytpcdknfmgacggaa
