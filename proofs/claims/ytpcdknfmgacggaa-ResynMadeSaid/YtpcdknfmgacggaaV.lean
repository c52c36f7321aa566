/- For ResynMadeS: what the texts XSiR XSmL of wip/tpl say. -/
import Derived.Test.YtpcdknfmgacggaaR
import Derived.Test.YtpcdknfmgacggaaU
set_option maxRecDepth 100000
set_option maxHeartbeats 2000000
namespace Go.Proofs.Ytpcdknfmgacggaa
open Go.RowKit
theorem SlR.cut3 {α : Type} {sz : Nat} {R : World → Nat → Nat → α → Prop} {w : World} {A : Option Addr} {n c : Nat} {xs : List α} (h : SlR sz R w (.slice A n c) xs) {i m : Nat} (hi : i ≤ m) (hm : m ≤ xs.length) : SlR sz R w (.slice (cutA A c i sz) (m - i) (c - i)) ((xs.drop i).take (m - i)) := by
  have h2 := h.cut (k := i) (by omega)
  obtain ⟨A', c', hv, hl, hc, hx, hn⟩ := h2
  injection hv with e1 e2 e3
  subst e1 e3
  have hlen : ((xs.drop i).take (m - i)).length = m - i := by rw [List.length_take, List.length_drop]; omega
  refine ⟨cutA A c i sz, c - i, by rw [hlen], by rw [hlen]; rw [List.length_drop] at hl; omega, hc, fun j x hj => ?_, hn⟩
  rw [List.getElem?_take] at hj
  split at hj
  · exact hx j x hj
  · cases hj
/-- Instructions, wherever they lie. -/
abbrev InsT := InsS (fun _ => True)
theorem InsT.ext {w w' : World} {v : Value} {l : List PG.Inst} (h : InsT w v l) (hx : Ext w w') : InsT w' v l := InsS.keep h hx.keepS
theorem InsT.at_ {w : World} {A : Option Addr} {n c : Nat} {l : List PG.Inst} (h : InsT w (.slice A n c) l) {k : Nat} {x : PG.Inst} (hx : l[k]? = some x) :
    ∃ g o As ns cs, A = some ⟨g, o, none⟩ ∧ SlC w (.slice As ns cs) x.set ∧ ns = x.set.length ∧ ∀ (j : Nat) (u : Value), [Value.int .i64 x.op, .int .i64 x.x, .int .i64 x.y, .bool x.neg, .slice As ns cs][j]? = some u → w.cell? ⟨g, o + k * 5 + j, none⟩ = some u := by
  obtain ⟨b, o, hA, -, cs, ⟨vs, rfl, h1⟩, -, h2⟩ := SlR.at_ h hx
  have h3 : SlC w vs x.set := SlR.mono2 h1 fun _ _ _ hh => hh.2
  obtain ⟨A', c', rfl, -⟩ := id h3
  exact ⟨b, o, A', _, c', hA, h3, rfl, h2⟩
theorem rjoin_any (xs ys : List Int) (va vb : Value) (w : World) (ha : SlC w va xs) (hb : SlC w vb ys) (hl : xs.length + ys.length ≤ 35184372088832) :
    Calls Try.prog 7 #[va, vb] w (RetP (fun w' v => OwnB 21 1 Cc w.heap.size w' v (xs ++ ys)) w) := by
  have HA := Lib.hid ha
  have HB := Lib.hid hb
  obtain ⟨A, ca, rfl, hla, hca, -⟩ := id ha
  obtain ⟨A', cb, rfl, hlb, hcb, -⟩ := id hb
  clear ha hb
  have HNIL := Lib.hid (show OwnB 21 1 Cc w.heap.size w (.slice none 0 0) ([] : List Int) from OwnB.nil_)
  have tok1 : True := trivial
  go_enter Try.func7, Try.ntmps7
  go_wp2_with (first
    | (at_builtin; have _t := tok1; go_loud (refine app_srcC rfl _ _ rfl w.heap.size (.slice none 0 0) _ [] xs HNIL.out rfl rfl HA.out ?hn ?hB ?_; (case hn => (simp only [List.length_nil]; omega)); (case hB => exact Nat.le_refl _); intro v6 w6 h1 h2; have hE6 : Ext w w6 := (Ext.refl w).grown h2 (fun k hk => (HNIL.out.lt k hk).1); rw [List.nil_append] at h1; obtain ⟨A6, c6, rfl, -⟩ := h1.form; have HO6 := Lib.hid h1; have HE6 := Lib.hid hE6; clear h1 h2 hE6 tok1 _t))
    | (at_builtin; go_loud (refine app_srcC rfl _ _ rfl w.heap.size (.slice A6 xs.length c6) _ xs ys HO6.out rfl rfl (HB.out.ext HE6.out) ?hn ?hB ?_; (case hn => omega); (case hB => exact HE6.out.size); intro v7 w7 h1 h2; have HE7 := Lib.hid (HE6.out.grown h2 (fun k hk => (HO6.out.lt k hk).1)); have HO7 := Lib.hid h1; clear h1 h2)))
  go_ret
  exact ⟨_, rfl, HO7.out, HE7.out⟩
theorem lendL_any (s : List Int) (vs : Value) (w : World) (hs : SlC w vs s) (hsl : s.length ≤ 35184372999000) : Calls Try.prog 11 #[vs] w (LendP s w) := by
  have H := Lib.hid hs
  obtain ⟨A, ca, rfl, hlx, hcx, -⟩ := id hs
  have HNIL := Lib.hid (show OwnB 21 1 Cc w.heap.size w (.slice none 0 0) ([] : List Int) from OwnB.nil_)
  clear hs
  have tok1 : True := trivial
  go_enter Try.func11, Try.ntmps11
  go_upto_region 2 with (first
    | (at_builtin; have _t := tok1; go_loud (refine app_srcL rfl _ _ rfl w.heap.size (.slice none 0 0) _ [] s HNIL.out rfl rfl H.out ?hn ?hB ?_; (case hn => (simp only [List.length_nil]; omega)); (case hB => exact Nat.le_refl _); intro v6 w6 h1 h2; have hE6 : Ext w w6 := (Ext.refl w).grown h2 (fun k hk => (HNIL.out.lt k hk).1); rw [List.nil_append] at h1; obtain ⟨A6, c6, rfl, -⟩ := h1.form; have HO6 := Lib.hid h1; have HE6 := Lib.hid hE6; clear h1 h2 hE6; clear tok1 _t))
    | (at_builtin; go_loud (refine app_srcL rfl _ _ rfl w.heap.size _ _ s [-77, -78] (OwnB.allocs HO6.out) rfl rfl (SlB.slc (c_lit (B := 0) w6 [-77, -78] _ _ rfl rfl (Nat.zero_le _) (by decide))) ?hn ?hB ?_; (case hn => (simp only [List.length_cons, List.length_nil]; omega)); (case hB => exact Nat.le_trans HE6.out.size (by simp)); intro v7 w7 h1 h2; have hE7 : Ext w w7 := (HE6.out.alloc _).grown h2 (fun k hk => (HO6.out.lt k hk).1); obtain ⟨A7, c7, rfl, hc7, hm7⟩ := h1.form; have HO7 := Lib.hid h1; have HE7 := Lib.hid hE7; clear h1 h2 hE7)))
  have hll : (s ++ [-77, -78]).length = s.length + 2 := by simp
  rw [hll] at hc7 HO7
  obtain ⟨g, rfl, -⟩ := HO7.out.get (k := 0) (by rw [hll]; omega)
  have HC7 := Lib.hid hc7
  obtain ⟨i0, hi0, hz0, hz1, hz2⟩ := info_parts info_c
  have hsl7 := fun W => run_sl_hiS (P := Try.prog) Try.underlying23 hi0 (some ⟨g, 0, none⟩) (n := s.length + 2) (c := c7) (m := s.length) (by omega) W
  clear hll
  go_wp2_with fail
  go_ret
  exact ⟨HE7.out, g, c7, rfl, HC7.out, HO7.out⟩
theorem same8L_any (p : List Int) (v : Value) (w : World) (hv : SlC w v p) (hp : p.length ≤ 35184372999000) : Calls Try.prog 6 #[v] w (Ret (.bool true) w) := by
  have HV := Lib.hid hv
  obtain ⟨A, c, rfl, -, -, -⟩ := id hv
  obtain ⟨P, hP⟩ : ∃ x, RX.parse p = x := ⟨_, rfl⟩
  obtain ⟨l, code, bat⟩ := P
  have hll : l.length ≤ 1000 := parse_smallQ hP
  have HP := Lib.hid hP
  have hpp := hp
  clear hv hP
  go_enter Try.func6, Try.ntmps6
  go_upto_region 2 with (go_at_call 11; go_loud (refine (lendL_any p _ _ HV.out hpp).mono ?_; rintro e w1 ⟨hx, g, c1, rfl, hc1, hown⟩; have HX1 := Lib.hid hx; have HW1 := Lib.hid hown.sl; have HS1 := Lib.hid (SlC.front (xs := p) (SlB.slc (by simpa using hown.sl))); clear hx hown))
  go_upto_region 3 with (go_at_call 12; go_loud (refine (parse_any p _ w1 HS1.out).mono ?_; rintro e w2 ⟨v2, u2, rfl, ⟨hv2, rfl⟩, hx⟩; rw [HP.out] at hv2 ⊢; have HX2 := Lib.hid hx; have HL := Lib.hid hv2; obtain ⟨A2, c2, rfl, -⟩ := hv2.form; clear hv2 hx))
  have HX3 := Lib.hid (show Ext w2 (w2.alloc (.cells #[.int .i64 code, .int .i64 bat] 39)) from (Ext.refl _).alloc _)
  have HB3 := Lib.hid (heap_alloc_new w2 (.cells #[.int .i64 code, .int .i64 bat] 39))
  obtain ⟨f3, hf3⟩ : ∃ x, w2.heap.size = x := ⟨_, rfl⟩
  have HF3 := Lib.hid hf3
  rw [hf3] at HB3
  rw [hf3]
  generalize w2.alloc _ = w3 at HX3 HB3 ⊢
  clear hf3
  go_upto_region 4 with (go_at_call 13; go_loud (refine (qparse_any p _ w3 (HV.out.ext (HX1.out.trans (HX2.out.trans HX3.out)))).mono ?_; rintro e w4 ⟨v4, u4, rfl, ⟨hv4, rfl⟩, hx⟩; rw [HP.out] at hv4 ⊢; have HX4 := Lib.hid hx; have HM := Lib.hid hv4; obtain ⟨A4, c4, rfl, -⟩ := hv4.form; clear hv4 hx))
  have HX5 := Lib.hid (show Ext w4 (w4.alloc (.cells #[.int .i64 code, .int .i64 bat] 39)) from (Ext.refl _).alloc _)
  have HB5 := Lib.hid (heap_alloc_new w4 (.cells #[.int .i64 code, .int .i64 bat] 39))
  obtain ⟨f5, hf5⟩ : ∃ x, w4.heap.size = x := ⟨_, rfl⟩
  rw [hf5] at HB5
  rw [hf5]
  generalize w4.alloc _ = w5 at HX5 HB5 ⊢
  clear hf5
  have HE5 := Lib.hid (HX4.out.trans HX5.out)
  have HE35 := Lib.hid (HX3.out.trans HE5.out)
  have HEW := Lib.hid (HX1.out.trans (HX2.out.trans HE35.out))
  have HB3' := Lib.hid (HE5.out.heap HB3.out)
  have a0 := cell_of_row _ f3 0 _ _ _ HB3'.out
  have a1 := cell_of_row _ f3 1 _ _ _ HB3'.out
  have b0 := cell_of_row _ f5 0 _ _ _ HB5.out
  have b1 := cell_of_row _ f5 1 _ _ _ HB5.out
  have HL5 := Lib.hid (HL.out.keep (keeps_re _) (KeepT.of_ext HE35.out) (KeepT.of_ext HE35.out))
  have HM5 := Lib.hid (HM.out.keep (keeps_re _) (KeepT.of_ext HX5.out) (KeepT.of_ext HX5.out))
  have HV5 := Lib.hid (HV.out.ext HEW.out)
  have HW5 := Lib.hid (HW1.out.keep (keeps_c []) (KeepT.of_ext (HX2.out.trans HE35.out)) (KeepT.of_ext (HX2.out.trans HE35.out)))
  have hga : ((RX.groups l : Nat) : Int) = (RX.groups l : Nat) := rfl
  clear hga
  go_upto_region 6 with (first
    | (go_at_call 14; go_loud (refine (samere_any l _ _ _ _ w5 HL5.out HM5.out (by omega)).mono ?_; rintro e w6 ⟨rfl, hx⟩; have HX6 := Lib.hid hx; have HL6 := Lib.hid (HL5.out.keep (keeps_re _) (KeepT.of_ext hx) (KeepT.of_ext hx)); clear hx))
    | (go_at_call 15; go_loud (refine (groups_any l _ _ w6 HL6.out (by omega)).mono ?_; rintro e w7 ⟨rfl, hx⟩; have HX7 := Lib.hid (HX6.out.trans hx); have HM7 := Lib.hid (HM5.out.keep (keeps_re _) (KeepT.of_ext HX7.out) (KeepT.of_ext HX7.out)); clear hx))
    | (go_at_call 16; go_loud (refine (qgroups_any l _ _ w7 HM7.out (by omega)).mono ?_; rintro e w8 ⟨rfl, hx⟩; have HX8 := Lib.hid (HX7.out.trans hx); have HV8 := Lib.hid (HV5.out.ext HX8.out); have HW8 := Lib.hid (HW5.out.keep (keeps_c []) (KeepT.of_ext HX8.out) (KeepT.of_ext HX8.out)); clear hx))
    | (go_at_call 17; go_loud (refine (kept_any p _ _ g c1 w8 HV8.out HW8.out).mono ?_; rintro e w9 ⟨rfl, hx⟩; have HX9 := Lib.hid (HX8.out.trans hx); clear hx)))
  have HSP := Lib.hid (Spl.start HL.out (HE35.out.trans HX9.out))
  have HM9 := Lib.hid (HM5.out.keep (keeps_re _) (KeepT.of_ext HX9.out) (KeepT.of_ext HX9.out))
  have HEW9 := Lib.hid (HEW.out.trans HX9.out)
  have HB12 := Lib.hid (And.intro (Below.size HX1.out) (Below.size HX3.out))
  obtain ⟨B, hB⟩ : ∃ x, w1.heap.size = x := ⟨_, rfl⟩
  obtain ⟨T, hT⟩ : ∃ x, w2.heap.size = x := ⟨_, rfl⟩
  obtain ⟨M, hM⟩ : ∃ x, w3.heap.size = x := ⟨_, rfl⟩
  rw [hB, hT] at HSP
  rw [hM] at HM9
  rw [hB, hT, hM] at HB12
  clear a0 a1 b0 b1 hB hT hM
  go_wp2_with fail
  go_loopw [8, 47] (fun _ i wr => ∃ k : Nat, k ≤ l.length ∧ i = .int .i64 (k : Int) ∧ Spl B T A2 l.length w9 wr) (fun _ i _ => l.length - (intOf i).toNat)
  case atStart => exact ⟨0, Nat.zero_le _, rfl, HSP.out⟩
  case round =>
    obtain ⟨k, hk, rfl, hspl⟩ := hrel
    have HS := Lib.hid hspl
    by_cases hlt : k < l.length
    · obtain ⟨g9, o9, cur, vs, kv, rfl, hb, ht, hcur, h6, h0, hshp⟩ := hspl.cells k hlt
      have hki : (k : Int) < (l.length : Int) := by omega
      have hdk : decide ((k : Int) < (l.length : Int)) = true := decide_eq_true hki
      have c6 : wr.cell? ⟨g9, o9 + k * 7 + 6, none⟩ = some vs := by simp only [World.cell?, hcur]; exact h6
      have HSH := Lib.hid hshp
      clear hcur h6 h0 hshp hspl
      go_upto_region 10 with (go_at_call 18; go_loud (refine (kspoil_any B T _ _ HSH.out).mono ?_; rintro e wa ⟨rfl, hs⟩; have HSA := Lib.hid (HS.out.spoil hs); clear hs))
      obtain ⟨g8, o8, cur2, vs2, kv2, e8, -, -, hcur2, -, h02, -⟩ := HSA.out.cells k hlt
      injection e8 with e8
      injection e8 with e1 e2 _
      subst e1 e2
      have c0 : wa.cell? ⟨g9, o9 + k * 7, none⟩ = some kv2 := by simp only [World.cell?, hcur2]; exact h02
      have f0 : wa.frozen? ⟨g9, o9 + k * 7, none⟩ = false := frozen_of_row wa g9 _ _ _ hcur2
      clear c6 hcur2 h02
      go_wp2_with fail
      go_roundw
      case rel => exact ⟨k + 1, by omega, by go_num, HSA.out.kind hlt⟩
      case measure => simp [intOf]; omega
    · have hdk : decide ((k : Int) < (l.length : Int)) = false := by simp; omega
      have HER := Lib.hid (Rng.ext HEW9.out HS.out.rng HB12.out.1)
      have HMR := Lib.hid (HM9.out.keepB (keepsB_re _) (fun g o hg ho => HS.out.rng.keepB g o (Nat.le_trans HB12.out.2 hg) ho))
      clear hspl
      go_upto_region 13 with (go_at_call 12; go_loud (refine (parse_any p _ wr (HV.out.ext HER.out)).mono ?_; rintro e wb ⟨v2, u2, rfl, ⟨hv2, rfl⟩, hx⟩; rw [HP.out] at hv2 ⊢; have HXB := Lib.hid hx; have HLB := Lib.hid hv2; obtain ⟨A9, c9, rfl, -⟩ := hv2.form; clear hv2 hx))
      have HXC := Lib.hid (show Ext wb (wb.alloc (.cells #[.int .i64 code, .int .i64 bat] 39)) from (Ext.refl _).alloc _)
      generalize wb.alloc _ = wc at HXC ⊢
      have HLC := Lib.hid (HLB.out.keep (keeps_re _) (KeepT.of_ext HXC.out) (KeepT.of_ext HXC.out))
      have HMC := Lib.hid (HMR.out.keep (keeps_re _) (KeepT.of_ext (HXB.out.trans HXC.out)) (KeepT.of_ext (HXB.out.trans HXC.out)))
      go_wp2_with (go_at_call 14; go_loud (refine (samere_any l _ _ _ _ wc HLC.out HMC.out (by omega)).mono ?_; rintro e wd ⟨rfl, hx⟩; have HXD := Lib.hid hx; clear hx))
      go_ret
      exact ⟨rfl, HER.out.trans (HXB.out.trans (HXC.out.trans HXD.out))⟩
theorem rjoinL_any (xs ys : List Int) (va vb : Value) (w : World) (ha : SlC w va xs) (hb : SlC w vb ys) (hl : xs.length + ys.length ≤ 35184372999000) :
    Calls Try.prog 7 #[va, vb] w (RetP (fun w' v => OwnB 21 1 Cc w.heap.size w' v (xs ++ ys)) w) := by
  have HA := Lib.hid ha
  have HB := Lib.hid hb
  obtain ⟨A, ca, rfl, hla, hca, -⟩ := id ha
  obtain ⟨A', cb, rfl, hlb, hcb, -⟩ := id hb
  clear ha hb
  have HNIL := Lib.hid (show OwnB 21 1 Cc w.heap.size w (.slice none 0 0) ([] : List Int) from OwnB.nil_)
  have tok1 : True := trivial
  go_enter Try.func7, Try.ntmps7
  go_wp2_with (first
    | (at_builtin; have _t := tok1; go_loud (refine app_srcL rfl _ _ rfl w.heap.size (.slice none 0 0) _ [] xs HNIL.out rfl rfl HA.out ?hn ?hB ?_; (case hn => (simp only [List.length_nil]; omega)); (case hB => exact Nat.le_refl _); intro v6 w6 h1 h2; have hE6 : Ext w w6 := (Ext.refl w).grown h2 (fun k hk => (HNIL.out.lt k hk).1); rw [List.nil_append] at h1; obtain ⟨A6, c6, rfl, -⟩ := h1.form; have HO6 := Lib.hid h1; have HE6 := Lib.hid hE6; clear h1 h2 hE6 tok1 _t))
    | (at_builtin; go_loud (refine app_srcL rfl _ _ rfl w.heap.size (.slice A6 xs.length c6) _ xs ys HO6.out rfl rfl (HB.out.ext HE6.out) ?hn ?hB ?_; (case hn => omega); (case hB => exact HE6.out.size); intro v7 w7 h1 h2; have HE7 := Lib.hid (HE6.out.grown h2 (fun k hk => (HO6.out.lt k hk).1)); have HO7 := Lib.hid h1; clear h1 h2)))
  go_ret
  exact ⟨_, rfl, HO7.out, HE7.out⟩
end Go.Proofs.Ytpcdknfmgacggaa
