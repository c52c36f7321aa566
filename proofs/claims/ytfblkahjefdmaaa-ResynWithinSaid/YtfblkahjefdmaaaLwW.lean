/- Walk: the law ResynWithin. -/
import Derived.Test.YtfblkahjefdmaaaSrR
import Derived.Test.YtfblkahjefdmaaaPat
import Derived.Test.YtfblkahjefdmaaaWiL
import Derived.Deep.RegionWith
import Derived.IntWalk
import Derived.Outline
namespace Go.Proofs.Ytfblkahjefdmaaa
open Go.RowKit

namespace RX
theorem parse_zero {s : List Int} {l : List ReN} {b : Int} (h : parse s = (l, 0, b)) : b = 0 := by
  unfold parse at h
  split at h
  · injection h with _ h; injection h with h _; exact absurd h (by decide)
  · split at h
    · injection h with _ h; injection h with h _; exact absurd h (by decide)
    · simp only at h
      generalize (if (altN s 12 ⟨0, 0, 0, 0, 0⟩).2.ok = true ∧ (altN s 12 ⟨0, 0, 0, 0, 0⟩).2.at_ < s.length then (altN s 12 ⟨0, 0, 0, 0, 0⟩).2.fail 5 (altN s 12 ⟨0, 0, 0, 0, 0⟩).2.at_ else (altN s 12 ⟨0, 0, 0, 0, 0⟩).2) = st2 at h
      by_cases hok : st2.ok = true
      · rw [if_pos hok] at h; injection h with _ h; injection h with _ h; exact h.symm
      · rw [if_neg hok] at h
        injection h with _ h
        injection h with h _
        exact absurd (by unfold St.ok; rw [h]; rfl) hok
theorem parse_tr {s : List Int} {l : List ReN} {c p : Int} (h : parse s = (l, c, p)) : Tr 60 200 l := by
  unfold parse at h
  split at h
  · injection h with h _; rw [← h]; exact Tr.nil_
  · rename_i hl
    split at h
    · injection h with h _; rw [← h]; exact Tr.nil_
    · simp only at h
      have hN := altN_ok s 12 ⟨0, 0, 0, 0, 0⟩ rfl (Nat.zero_le _) (by decide)
      generalize altN s 12 ⟨0, 0, 0, 0, 0⟩ = r at h hN
      have h1 : r.2.at_ ≤ s.length + 14 := hN.1.hi
      have h2 : Tr 60 200 r.1 := hN.2.mono (by decide) (by show 2 * (r.2.at_ - 0) + 2 ≤ 200; omega)
      generalize (if r.2.ok = true ∧ r.2.at_ < s.length then r.2.fail 5 r.2.at_ else r.2) = st2 at h
      by_cases hok : st2.ok = true
      · rw [if_pos hok] at h; injection h with h _; rw [← h]; exact h2
      · rw [if_neg hok] at h; injection h with h _; rw [← h]; exact Tr.nil_
/-- What a pattern in (?: ) is. -/
def within_ (a : List ReN) : List ReN := under (node 0 0 0 false false []) [under (node 5 0 0 false false []) [a]]
theorem within_len (a : List ReN) : (within_ a).length = a.length + 2 := by simp [within_, under]
theorem within_at (a : List ReN) {k : Nat} (h : k < a.length) : (within_ a)[k + 2]'(by rw [within_len]; omega) = { a[k] with deep := a[k].deep + 2 } := by
  simp [within_, under, ReN.down]
  omega
end RX

/-- A cut of a row in blocks from a bound on. -/
theorem SlB.cut2 {α : Type} {t sz : Nat} {C : World → List Value → α → Prop} {B : Nat} {w : World} {A : Option Addr} {n c : Nat} {xs : List α} (h : SlB t sz C B w (.slice A n c) xs) {k m : Nat} (hk : k < m) (hm : m ≤ xs.length) :
    SlB t sz C B w (.slice (cutA A c k sz) (m - k) (c - k)) ((xs.drop k).take (m - k)) := by
  obtain ⟨A', c', hv, hl, hc, hn, ha⟩ := h
  injection hv with h1 h2 h3
  subst h1 h2 h3
  have hlen : ((xs.drop k).take (m - k)).length = m - k := by rw [List.length_take, List.length_drop]; omega
  refine ⟨cutA A c k sz, c - k, by rw [hlen], by rw [hlen]; omega, by omega, ?_, ?_⟩
  · intro hA
    unfold cutA at hA
    split at hA
    · omega
    · cases A with
      | none => have := hn rfl; omega
      | some _ => cases hA
  · intro ad had
    unfold cutA at had
    rw [if_neg (by omega)] at had
    cases A with
    | none => cases had
    | some a0 =>
      obtain ⟨g, o, cur, rfl, hb, hh, ho, hx⟩ := ha a0 rfl
      simp only [Option.map_some, Option.some.injEq] at had
      have hadd : (⟨g, o, none⟩ : Addr).add (k * sz) = ⟨g, o + k * sz, none⟩ := by unfold Addr.add; split <;> simp_all
      rw [hadd] at had
      subst had
      have hcc : (c - k) * sz + k * sz = c * sz := by rw [← Nat.add_mul]; congr 1; omega
      refine ⟨g, o + k * sz, cur, rfl, hb, hh, by omega, fun j x hj => ?_⟩
      rw [List.getElem?_take] at hj
      split at hj
      · rw [List.getElem?_drop] at hj
        obtain ⟨cs, h4, h5⟩ := hx _ _ hj
        refine ⟨cs, h4, fun i u hu => ?_⟩
        have := h5 i u hu
        rw [Nat.add_mul] at this
        rw [show o + k * sz + j * sz + i = o + (k * sz + j * sz) + i by omega]; exact this
      · cases hj

theorem groups_le (l : List RX.ReN) : RX.groups l ≤ l.length := by unfold RX.groups; exact List.length_filter_le _ _
theorem SlRe.drew {B b : Nat} {w : World} {v : Value} {l : List RX.ReN} (h : SlRe B b w v l) : SlRe B b w.drew v l := h.keep (keeps_re B) (fun _ _ _ _ h => h) (fun _ _ _ _ h => h)
set_option maxRecDepth 100000 in
set_option maxHeartbeats 1000000 in
theorem resynWithin_any (ts us : List Int) (va vb : Value) (w : World) (ha : SlI w va ts) (hb : SlI w vb us) : Calls Try.prog 5 #[va, vb] w (Ret (.bool true) w) := by
  obtain ⟨A, c, rfl, hlc, hcm, -⟩ := id ha
  obtain ⟨A', c', rfl, hlc', hcm', -⟩ := id hb
  have he0 : Ten w w.heap.size (.slice A ts.length c) ts (w.alloc (.cells #[.slice A ts.length c, .int .i64 0] 26)) 0 :=
    ⟨ha, Nat.le_refl _, (Ext.refl w).alloc _, heap_alloc_new w _, Nat.zero_le _⟩
  have HP := Lib.hid (pat_c1 _ _ he0)
  have HB := Lib.hid hb
  clear he0 ha hb
  go_enter Try.func5, Try.ntmps5
  go_wp2_with fail
  refine HP.out.mono ?_
  rintro e w1 ⟨v1, rfl, hv1, -, ho1⟩
  have hE1 : Ext w w1 := ((Ext.refl w).alloc _).only ho1 (Nat.le_refl _)
  have HRP := Lib.hid (RX.pat_row ts 1 0)
  generalize hp0 : (TP.pat ts 1 0).1 = p at hv1 HRP
  have hpl : p.length ≤ 400 := by rw [← hp0]; exact Nat.le_trans (TP.pat1_ok ts 0 (Nat.zero_le _)).2 (by decide)
  obtain ⟨A1, c1, rfl, -⟩ := hv1.form
  have HV1 := Lib.hid hv1
  have HE1 := Lib.hid hE1
  clear hv1 ho1 HP hp0
  have he1 : Ten w1 w1.heap.size (.slice A' us.length c') us (w1.alloc (.cells #[.slice A' us.length c', .int .i64 0] 26)) 0 :=
    ⟨HB.out.ext hE1, Nat.le_refl _, (Ext.refl w1).alloc _, heap_alloc_new w1 _, Nat.zero_le _⟩
  have HP := Lib.hid (pat_c1 _ _ he1)
  clear he1 hE1
  go_wp2_with fail
  refine HP.out.mono ?_
  rintro e w2 ⟨v2, rfl, hv2, -, ho2⟩
  have hE2 : Ext w1 w2 := ((Ext.refl w1).alloc _).only ho2 (Nat.le_refl _)
  have HRQ := Lib.hid (RX.pat_row us 1 0)
  generalize hq0 : (TP.pat us 1 0).1 = q at hv2 HRQ
  have hql : q.length ≤ 400 := by rw [← hq0]; exact Nat.le_trans (TP.pat1_ok us 0 (Nat.zero_le _)).2 (by decide)
  obtain ⟨A2, c2, rfl, -⟩ := hv2.form
  have HV2 := Lib.hid hv2
  have HE2 := Lib.hid (HE1.out.trans hE2)
  have HV1 := Lib.hid (HV1.out.keep (keeps_c []) (KeepT.of_ext hE2) (KeepT.of_ext hE2))
  clear hv2 ho2 HP hE2 HE1 HB hq0
  go_wp2_with fail
  refine (parse_any p _ _ (SlB.slc HV1.out)).mono ?_
  rintro e w3 ⟨v3, u3, rfl, ⟨hv3, rfl⟩, hE3⟩
  obtain ⟨R, hR⟩ : ∃ R, RX.parse p = R := ⟨_, rfl⟩
  rw [hR] at hv3 ⊢
  obtain ⟨la, code, bat⟩ := R
  dsimp only at hv3 ⊢
  have HPA := Lib.hid hR
  have hlen := (RX.parse_tr hR).1
  obtain ⟨A3, c3, rfl, hlc3, hcm3⟩ := hv3.form
  have HV3 := Lib.hid hv3
  have HE3 := Lib.hid hE3
  clear hE3 hv3 hR
  go_wp2_with fail
  refine (parse_any q _ _ ((SlB.slc HV2.out).ext (HE3.out.alloc _))).mono ?_
  rintro e w4 ⟨v4, u4, rfl, ⟨hv4, rfl⟩, hE4⟩
  obtain ⟨R, hR⟩ : ∃ R, RX.parse q = R := ⟨_, rfl⟩
  rw [hR] at hv4 ⊢
  obtain ⟨lb, code2, bat2⟩ := R
  dsimp only at hv4 ⊢
  have HPB := Lib.hid hR
  have hlen2 := (RX.parse_tr hR).1
  obtain ⟨A4, c4, rfl, hlc4, hcm4⟩ := hv4.form
  have q1 : w4.cell? ⟨w3.heap.size, 0, none⟩ = some (.int .i64 code) := hE4.cell (by rw [World.cell?_alloc_new]; rfl)
  have hw3 : w3.heap.size < w4.heap.size := World.block_lt_of_cell? _ _ q1
  have HV4 := Lib.hid hv4
  have HE4 := Lib.hid (((Ext.refl w3).alloc _).trans hE4)
  clear hE4 hv4 hR
  have HK := Lib.hid known8_any
  have hE5 : Ext w (w4.alloc (.cells #[.int .i64 code2, .int .i64 bat2] 36)) := ((HE2.out.trans HE3.out).trans HE4.out).alloc _
  have HE5 := Lib.hid hE5
  clear hE5
  by_cases hc1 : code = 0
  rotate_left
  · have hcn : (code != 0) = true := by simpa using hc1
    clear hc1
    go_wp2_with (go_at_call 21; refine (HK.out _).mono ?_; rintro e w9 ⟨rfl, hE9⟩)
    go_ret
    exact ⟨rfl, HE5.out.trans hE9⟩
  by_cases hc2 : code2 = 0
  rotate_left
  · subst hc1
    have hcn : (code2 != 0) = true := by simpa using hc2
    clear hc2
    go_wp2_with (go_at_call 21; refine (HK.out _).mono ?_; rintro e w9 ⟨rfl, hE9⟩)
    go_ret
    exact ⟨rfl, HE5.out.trans hE9⟩
  subst hc1 hc2
  obtain rfl := RX.parse_zero HPA.out
  obtain rfl := RX.parse_zero HPB.out
  by_cases h55 : p.length + q.length ≤ 55
  rotate_left
  · have hcn : decide ((55 : Int) < (p.length : Int) + (q.length : Int)) = true := by simp; omega
    have hcm : decide (55 < p.length + q.length) = true := by simp; omega
    clear h55
    go_wp2_with (go_at_call 21; refine (HK.out _).mono ?_; rintro e w9 ⟨rfl, hE9⟩)
    go_ret
    exact ⟨rfl, HE5.out.trans hE9⟩
  have hcn : decide ((55 : Int) < (p.length : Int) + (q.length : Int)) = false := by simp; omega
  have hcm : decide (55 < p.length + q.length) = false := by simp; omega
  have hap : 0 < la.length := by
    obtain ⟨b, _, x, r, hx, _⟩ := RX.parse_wf HPA.out
    rw [hx]; simp
  have hbp : 0 < lb.length := by
    obtain ⟨b, _, x, r, hx, _⟩ := RX.parse_wf HPB.out
    rw [hx]; simp
  have hz1 : ((la.length : Int) == 0) = false := by simpa using (by omega : ¬ la.length = 0)
  have hz2 : ((lb.length : Int) == 0) = false := by simpa using (by omega : ¬ lb.length = 0)
  have HWI := Lib.hid (RX.within_group HRP.out (by decide) HPA.out (by omega))
  go_upto_region 6 with fail
  have hX3 := HE4.out.alloc (.cells #[.int .i64 0, .int .i64 0] 36)
  have hX2 := HE3.out.trans hX3
  have HA := Lib.hid (SlB.keep HV3.out (keeps_re _) (KeepT.of_ext hX3) (KeepT.of_ext hX3))
  have HBB := Lib.hid (SlB.keep HV4.out (keeps_re _) (KeepT.of_ext ((Ext.refl w4).alloc (.cells #[.int .i64 0, .int .i64 0] 36))) (KeepT.of_ext ((Ext.refl w4).alloc (.cells #[.int .i64 0, .int .i64 0] 36))))
  have HVP := Lib.hid (SlB.keep HV1.out (keeps_c []) (KeepT.of_ext hX2) (KeepT.of_ext hX2))
  have HVQ := Lib.hid (SlB.keep HV2.out (keeps_c []) (KeepT.of_ext hX2) (KeepT.of_ext hX2))
  clear hX3 hX2 q1 hcn hcm hz1 hz2
  generalize w4.alloc (.cells #[.int .i64 0, .int .i64 0] 36) = w5 at HE5 HA HBB HVP HVQ ⊢
  clear HV1 HV2 HV3 HV4 HE3 HE4 HE2 hw3
  have HOWN := Lib.hid (show OwnB 21 1 Cc w5.heap.size (w5.alloc (.cells #[.int .i32 40, .int .i32 63, .int .i32 58] 21)) (.slice (some ⟨w5.heap.size, 0, none⟩) 3 3) [40, 63, 58] from lit_c w5 [40, 63, 58] (Nat.le_refl _) (by decide))
  have HSRC := Lib.hid (SlB.keep HVP.out (keeps_c []) (KeepT.of_ext ((Ext.refl w5).alloc (.cells #[.int .i32 40, .int .i32 63, .int .i32 58] 21))) (KeepT.of_ext ((Ext.refl w5).alloc (.cells #[.int .i32 40, .int .i32 63, .int .i32 58] 21))))
  have tok1 : True := trivial
  go_upto_region 7 with (first
    | (at_builtin; have _t := tok1; go_loud (refine app_src rfl _ _ rfl w5.heap.size _ (.slice (some ⟨w5.heap.size, 0, none⟩) 3 3) _ [40, 63, 58] p HOWN.out rfl rfl HSRC.out (by decide) ?hn2 ?hB ?_; (case hn2 => omega); (case hB => (simp; done)); intro v6 w6 h1 h2; have hE6 : Ext w5 w6 := ((Ext.refl w5).alloc _).grown h2 (fun k hk => (HOWN.out.lt k hk).1); generalize hl : [40, 63, 58] ++ p = out1 at h1; have hl1 : out1.length ≤ 60 := (by rw [← hl]; simp; omega); obtain ⟨A6, c6, rfl, -⟩ := h1.form; have HO6 := Lib.hid h1; have HE6 := Lib.hid hE6; have HL1 := Lib.hid hl; clear h1 h2 hE6 hl; clear tok1 _t))
    | (at_builtin; go_loud (refine app_i32 rfl _ _ rfl w5.heap.size _ out1 [41] HO6.out.allocs rfl ⟨w6.heap.size, 0, none⟩ 1 1 rfl rfl (one_cells rfl) ?hn ?hll ?hB ?_; (case hn => omega); (case hll => (show 1 ≤ 1000; decide)); (case hB => exact Nat.le_trans HE6.out.size (by simp)); intro v7 w7 h1 h2; have hE7 : Ext w5 w7 := (HE6.out.alloc _).grown h2 (fun k hk => (HO6.out.lt k hk).1); generalize hl : out1 ++ [41] = out2 at h1; obtain ⟨A7, c7, rfl, -⟩ := h1.form; have HO7 := Lib.hid h1; have HE7 := Lib.hid hE7; have HL2 := Lib.hid (show out2 = 40 :: 63 :: 58 :: (p ++ [41]) from (by rw [← hl, ← HL1.out]; simp)); clear h1 h2 hE7 hl))
    | (go_at_call 22; go_loud (refine (parse_any _ _ _ (SlB.slc HO7.out.sl)).mono ?_; rintro e w8 ⟨v8, u8, rfl, ⟨hv8, rfl⟩, hE8⟩; have hR : RX.parse out2 = (RX.within_ la, 0, 0) := (by rw [HL2.out]; exact HWI.out); rw [hR] at hv8 ⊢; dsimp only at hv8 ⊢; generalize hin : RX.within_ la = lin at hv8; have hinl : lin.length = la.length + 2 := (by rw [← hin]; exact RX.within_len la); obtain ⟨A8, c8, rfl, -⟩ := hv8.form; have HIN := Lib.hid hin; have HINL := Lib.hid hinl; have HV8 := Lib.hid hv8; have HE8 := Lib.hid (HE7.out.trans hE8); clear hv8 hE8 hR hin hinl)))
  have hX9 : Ext w5 (w8.alloc (.cells #[.int .i64 0, .int .i64 0] 36)) := HE8.out.alloc _
  have HX9 := Lib.hid hX9
  have HBOX := Lib.hid (heap_alloc_new w8 (.cells #[.int .i64 0, .int .i64 0] 36))
  have e9 : w8.cell? ⟨w8.heap.size, 0, none⟩ = none := by unfold World.cell?; rw [Array.getElem?_eq_none (Nat.le_refl _)]
  have HV9 := Lib.hid (SlB.keep HV8.out (keeps_re _) (KeepT.of_ext ((Ext.refl w8).alloc (.cells #[.int .i64 0, .int .i64 0] 36))) (KeepT.of_ext ((Ext.refl w8).alloc (.cells #[.int .i64 0, .int .i64 0] 36))))
  have hb0 : (w8.alloc (.cells #[.int .i64 0, .int .i64 0] 36)).cell? ⟨w8.heap.size, 0, none⟩ = some (.int .i64 0) := by rw [World.cell?_alloc_new]; rfl
  have hbxl : w.heap.size ≤ w8.heap.size := Nat.le_trans HE5.out.size HE8.out.size
  clear hX9 e9
  generalize w8.alloc (.cells #[.int .i64 0, .int .i64 0] 36) = w9 at HX9 HBOX HV9 hb0 ⊢
  generalize w8.heap.size = bx at HBOX hb0 hbxl ⊢
  have hinl := HINL.out
  have hlin : (1 : Int) < lin.length := by omega
  have hn1 : ((lin.length : Int) != (la.length : Int) + 2) = false := by rw [hinl]; simp
  obtain ⟨gi, oi, csi, rfl, hci, hcell⟩ := HV9.out.at_ (k := 1) (by omega)
  have hi1 : lin[1]'(by omega) = (RX.node 5 0 0 false false []).down := by
    have h := HIN.out
    subst h; rfl
  rw [hi1] at hci
  obtain ⟨sv, rfl, -⟩ := hci
  have i0 := hcell 0 (.int .i64 5) rfl
  have i2 := hcell 2 (.int .i64 0) rfl
  simp only [Nat.one_mul, Nat.add_zero] at i0 i2
  clear hcell hi1 hinl
  go_upto_region 9 with fail
  clear i0 i2 hb0 hn1
  have HA9 := Lib.hid (SlB.keep HA.out (keeps_re _) (KeepT.of_ext HX9.out) (KeepT.of_ext HX9.out))
  have HB9 := Lib.hid (SlB.keep HBB.out (keeps_re _) (KeepT.of_ext HX9.out) (KeepT.of_ext HX9.out))
  have HD := Lib.hid (RX.parse_tr HPA.out).2
  go_wp2_with fail
  go_loopw [97] (fun i wr => ∃ k : Nat, k ≤ la.length ∧ i = .int .i64 k ∧ Ext w9 wr) (fun i _ => la.length - (intOf i).toNat)
  case atStart => exact ⟨0, Nat.zero_le _, rfl, Ext.refl w9⟩
  case round =>
    obtain ⟨k, hk, rfl, hE⟩ := hrel
    have HE := Lib.hid hE
    by_cases hlt : k < la.length
    · have hinl := HINL.out
      have hlt2 : k + 2 < lin.length := by omega
      have hlt3 : (k : Int) + 2 < lin.length := by omega
      have HSA := Lib.hid (SlB.cut2 (SlB.keep HA9.out (keeps_re _) (KeepT.of_ext hE) (KeepT.of_ext hE)) (k := k) (m := k + 1) (Nat.lt_succ_self k) hlt)
      obtain ⟨g1, o1, cs, he, hcr, hcell⟩ := (SlB.keep HV9.out (keeps_re _) (KeepT.of_ext hE) (KeepT.of_ext hE)).at_ hlt2
      injection he with he
      injection he with he1 he2
      subst he1 he2
      have hat : lin[k + 2] = { la[k] with deep := la[k].deep + 2 } := by
        have h := HIN.out
        subst h; exact RX.within_at la hlt
      rw [hat] at hcr
      have htk : (la.drop k).take (k + 1 - k) = [la[k]] := by
        rw [List.drop_eq_getElem_cons hlt, show k + 1 - k = 1 by omega]; rfl
      have HSA := Lib.hid (htk ▸ HSA.out)
      have hd := HD.out la[k] (List.getElem_mem hlt)
      generalize la[k] = x at hcr hd HSA
      obtain ⟨hd0, hd1⟩ := hd
      obtain ⟨sv, rfl, hsv⟩ := hcr
      obtain ⟨As, cas, rfl, -⟩ := id hsv
      have HSV := Lib.hid hsv
      have k0 := hcell 0 _ rfl
      have k1 := hcell 1 _ rfl
      have k2 := hcell 2 _ rfl
      have k3 := hcell 3 _ rfl
      have k4 := hcell 4 _ rfl
      have k5 := hcell 5 _ rfl
      have k6 := hcell 6 _ rfl
      rw [Nat.add_zero] at k0
      simp only at k0 k1 k2 k3 k4 k5 k6
      clear hcell hat htk hsv hinl hE
      go_upto_region 14 with fail
      obtain ⟨i0, hi, hz0, hz1, hz2⟩ := info_parts info_re
      obtain ⟨A5, c5, hA5, -⟩ := HA9.out.form
      injection hA5 with hA5 hA6 hA7
      subst hA5 hA7
      have hsl := fun W => run_sl_both (P := Try.prog) Try.underlying33 hi A3 (n := la.length) (c := c3) (k := k) (m := k + 1) (Nat.le_add_right k 1) (Nat.le_trans hlt hlc3) W
      rw [hz1] at hsl
      simp only [Int.natCast_add, Int.cast_ofNat_Int, Nat.add_sub_cancel_left] at hsl
      rw [Nat.add_sub_cancel_left] at HSA
      have HSX := Lib.hid (re_lit (B := 0) (wr.alloc (.cells #[.int .i64 x.kind, .int .i64 x.deep, .int .i64 x.lo, .int .i64 x.hi, .bool x.lazy, .bool x.neg, .slice As x.set.length cas] 40)) x [.int .i64 x.kind, .int .i64 x.deep, .int .i64 x.lo, .int .i64 x.hi, .bool x.lazy, .bool x.neg, .slice As x.set.length cas] (wr.heap.size + 1) (by simp) (Nat.zero_le _) ⟨_, rfl, (HSV.out.weaken (Nat.zero_le _)).keep (keeps_c []) (KeepT.of_ext ((Ext.refl wr).alloc _)) (KeepT.of_ext ((Ext.refl wr).alloc _))⟩)
      have HSY := Lib.hid (HSA.out.keep (keeps_re _) (KeepT.of_ext (((Ext.refl wr).alloc (.cells #[.int .i64 x.kind, .int .i64 x.deep, .int .i64 x.lo, .int .i64 x.hi, .bool x.lazy, .bool x.neg, .slice As x.set.length cas] 40)).alloc (.cells #[.int .i64 x.kind, .int .i64 x.deep, .int .i64 x.lo, .int .i64 x.hi, .bool x.lazy, .bool x.neg, .slice As x.set.length cas] 40))) (KeepT.of_ext (((Ext.refl wr).alloc (.cells #[.int .i64 x.kind, .int .i64 x.deep, .int .i64 x.lo, .int .i64 x.hi, .bool x.lazy, .bool x.neg, .slice As x.set.length cas] 40)).alloc (.cells #[.int .i64 x.kind, .int .i64 x.deep, .int .i64 x.lo, .int .i64 x.hi, .bool x.lazy, .bool x.neg, .slice As x.set.length cas] 40))))
      have ew : IntKind.i64.wrap ((k : Int) + 1) = (k : Int) + 1 := IntWalk.i64_in _ (by omega)
      go_region_with (go_at_call 24; go_loud (refine (samere_any [x] 0 _ _ _ _ (SlRe.drew HSX.out) (SlRe.drew HSY.out) (by simp)).mono ?_; rintro e w10 ⟨rfl, hE10⟩))
      all_goals (clear hsl ew k0 k1 k2 k3 k4 k5 k6; go_wp2_with fail; go_roundw; (case rel => exact ⟨k + 1, by omega, by go_num, (((HE.out.alloc _).alloc _).drew).trans hE10⟩); (case measure => (simp [intOf]; omega)))
    · have HAR := Lib.hid (SlB.keep HA9.out (keeps_re _) (KeepT.of_ext hE) (KeepT.of_ext hE))
      have HBR := Lib.hid (SlB.keep HB9.out (keeps_re _) (KeepT.of_ext hE) (KeepT.of_ext hE))
      have HXR := Lib.hid (((HE5.out.trans HX9.out).trans hE))
      obtain ⟨ga, oa, csa, rfl, hca, hcella⟩ := HAR.out.at_ hap
      obtain ⟨gb, ob, csb, rfl, hcb, hcellb⟩ := HBR.out.at_ hbp
      have HPZ := Lib.hid (RX.within_two HRP.out HRQ.out (by decide) HPA.out HPB.out (by omega))
      generalize la[0] = xa at hca
      generalize lb[0] = xb at hcb
      obtain ⟨sva, rfl, -⟩ := hca
      obtain ⟨svb, rfl, -⟩ := hcb
      have a0 := hcella 0 _ rfl
      have b0 := hcellb 0 _ rfl
      simp only [Nat.zero_mul, Nat.add_zero] at a0 b0
      have hg1 := Nat.le_trans (groups_le la) hlen
      have hg2 := Nat.le_trans (groups_le lb) hlen2
      have HGA := Lib.hid (fun W (hW : Ext wr W) => groups_any la _ _ W (SlB.keep (SlB.weaken HAR.out (Nat.le_refl _)) (keeps_re _) (KeepT.of_ext hW) (KeepT.of_ext hW)) (by omega))
      have HGB := Lib.hid (fun W (hW : Ext wr W) => groups_any lb _ _ W (SlB.keep (SlB.weaken HBR.out (Nat.le_refl _)) (keeps_re _) (KeepT.of_ext hW) (KeepT.of_ext hW)) (by omega))
      generalize hn1 : RX.groups la = n1 at hg1 HGA HPZ
      generalize hn2 : RX.groups lb = n2 at hg2 HGB HPZ
      have HN1 := Lib.hid hn1
      have HN2 := Lib.hid hn2
      have HWR := Lib.hid hE
      clear hcella hcellb hE hn1 hn2
      generalize xa.kind = ka at a0
      generalize xb.kind = kb at b0
      by_cases hka : ka = 0
      rotate_left
      · have e1 : (ka != 0) = true := by simpa using hka
        clear hka
        go_wp2_with (go_at_call 21; refine (HK.out _).mono ?_; rintro e w11 ⟨rfl, hE11⟩)
        go_ret
        exact ⟨rfl, HXR.out.trans hE11⟩
      by_cases hkb : kb = 0
      rotate_left
      · subst hka
        have e1 : (kb != 0) = true := by simpa using hkb
        clear hkb
        go_wp2_with (go_at_call 21; refine (HK.out _).mono ?_; rintro e w11 ⟨rfl, hE11⟩)
        go_ret
        exact ⟨rfl, HXR.out.trans hE11⟩
      subst hka hkb
      by_cases h9 : n1 + n2 ≤ 9
      rotate_left
      · have e1 : decide ((9 : Int) < (n1 : Int) + (n2 : Int)) = true := by simp; omega
        have e2 : decide (9 < n1 + n2) = true := by simp; omega
        clear h9
        go_wp2_with (first
          | (go_at_call 23; ((with_reducible refine (HGA.out _ (Ext.refl _)).mono ?_); rintro e w11 ⟨rfl, hE11⟩))
          | (go_at_call 23; ((with_reducible refine (HGB.out _ hE11).mono ?_); rintro e w12 ⟨rfl, hE12⟩))
          | (go_at_call 21; refine (HK.out _).mono ?_; rintro e w13 ⟨rfl, hE13⟩))
        go_ret
        exact ⟨rfl, ((HXR.out.trans hE11).trans hE12).trans hE13⟩
      have e1 : decide ((9 : Int) < (n1 : Int) + (n2 : Int)) = false := by simp; omega
      have e2 : decide (9 < n1 + n2) = false := by simp; omega
      go_upto_region 19 with (first
        | (go_at_call 23; ((with_reducible refine (HGA.out _ (Ext.refl _)).mono ?_); rintro e w11 ⟨rfl, hE11⟩))
        | (go_at_call 23; ((with_reducible refine (HGB.out _ hE11).mono ?_); rintro e w12 ⟨rfl, hE12⟩)))
      have hR12 : Ext wr w12 := hE11.trans hE12
      have hQ12 : Ext w5 w12 := (HX9.out.trans HWR.out).trans hR12
      have H12 := Lib.hid hR12
      have HVP := Lib.hid (SlB.keep HVP.out (keeps_c []) (KeepT.of_ext hQ12) (KeepT.of_ext hQ12))
      have HVQ := Lib.hid (SlB.keep HVQ.out (keeps_c []) (KeepT.of_ext hQ12) (KeepT.of_ext hQ12))
      have tok1 : True := trivial
      have tok2 : True := trivial
      have HNIL := Lib.hid (show OwnB 21 1 Cc w12.heap.size w12 (.slice none 0 0) ([] : List Int) from OwnB.nil_)
      clear hE11 hE12 hR12 hQ12 e1 e2 a0 b0
      go_upto_region 20 with (first
        | (at_builtin; have _t := tok1; go_loud (refine app_src rfl _ _ rfl w12.heap.size _ (.slice none 0 0) _ [] p HNIL.out rfl rfl HVP.out (by decide) ?hn2 ?hB ?_; (case hn2 => omega); (case hB => exact Nat.le_refl _); intro v13 w13 h1 h2; have hE13 : Ext w12 w13 := (Ext.refl w12).grown h2 (fun k hk => (HNIL.out.lt k hk).1); generalize hl : ([] : List Int) ++ p = out3 at h1; have hl1 : out3.length ≤ 60 := (by rw [← hl]; simp; omega); obtain ⟨A13, c13, rfl, -⟩ := h1.form; have HO13 := Lib.hid h1; have HE13 := Lib.hid hE13; have HL3 := Lib.hid hl; clear h1 h2 hE13 hl; clear tok1 _t))
        | (at_builtin; have _t := tok2; go_loud (refine app_i32 rfl _ _ rfl w12.heap.size _ out3 [124] HO13.out.allocs rfl ⟨w13.heap.size, 0, none⟩ 1 1 rfl rfl (one_cells rfl) ?hn ?hll ?hB ?_; (case hn => omega); (case hll => (show 1 ≤ 1000; decide)); (case hB => exact Nat.le_trans HE13.out.size (by simp)); intro v14 w14 h1 h2; have hE14 : Ext w12 w14 := (HE13.out.alloc _).grown h2 (fun k hk => (HO13.out.lt k hk).1); generalize hl : out3 ++ [124] = out4 at h1; have hl1 : out4.length ≤ 61 := (by rw [← hl]; simp; omega); obtain ⟨A14, c14, rfl, -⟩ := h1.form; have HO14 := Lib.hid h1; have HE14 := Lib.hid hE14; have HL4 := Lib.hid hl; have HVQ2 := Lib.hid (SlB.keep HVQ.out (keeps_c []) (KeepT.of_ext hE14) (KeepT.of_ext hE14)); clear h1 h2 hE14 hl; clear tok2 _t))
        | (at_builtin; go_loud (refine app_src rfl _ _ rfl w12.heap.size _ (.slice A14 out4.length c14) _ out4 q HO14.out rfl rfl HVQ2.out ?hn ?hn2 ?hB ?_; (case hn => omega); (case hn2 => omega); (case hB => exact HE14.out.size); intro v15 w15 h1 h2; have hE15 : Ext w12 w15 := HE14.out.grown h2 (fun k hk => (HO14.out.lt k hk).1); generalize hl : out4 ++ q = out5 at h1; obtain ⟨A15, c15, rfl, -⟩ := h1.form; have HO15 := Lib.hid h1; have HE15 := Lib.hid hE15; have HL5 := Lib.hid (show out5 = p ++ 124 :: q from (by rw [← hl, ← HL4.out, ← HL3.out]; simp)); clear h1 h2 hE15 hl))
        | (go_at_call 22; go_loud (refine (parse_any _ _ _ (SlB.slc HO15.out.sl)).mono ?_; rintro e w16 ⟨v16, u16, rfl, ⟨hv16, rfl⟩, hE16⟩; obtain ⟨lz, hz1, hz2, hz3, hz4⟩ := HPZ.out h9; have hR : RX.parse out5 = (lz, 0, 0) := (by rw [HL5.out]; exact hz1); rw [hR] at hv16 ⊢; dsimp only at hv16 ⊢; obtain ⟨A16, c16, rfl, -⟩ := hv16.form; have HV16 := Lib.hid hv16; have HE16 := Lib.hid (HE15.out.trans hE16); have HZ1 := Lib.hid hz1; have HZ2 := Lib.hid hz2; have HZ3 := Lib.hid hz3; have HZ4 := Lib.hid hz4; have hbx := ((HWR.out.trans H12.out).trans HE16.out).heap HBOX.out; have x0 := cell_of_row w16 bx 0 _ _ _ hbx; have x1 := cell_of_row w16 bx 1 _ _ _ hbx; have f0 := frozen_of_row w16 bx 0 _ _ hbx; have f1 := frozen_of_row w16 bx 1 _ _ hbx; have HBX := Lib.hid hbx; clear hv16 hE16 hR hz1 hz2 hz3 hz4 hbx)))
      have hO := ((Only.refl w16 bx).set (o := 0) (.int .i64 0)).set (o := 1) (.int .i64 0)
      have hK : KeepT [40, 21] w16 ((w16.setCell ⟨bx, 0, none⟩ (.int .i64 0)).setCell ⟨bx, 1, none⟩ (.int .i64 0)) := Only.keepT hO HBX.out (by decide)
      have hh : ((w16.setCell ⟨bx, 0, none⟩ (.int .i64 0)).setCell ⟨bx, 1, none⟩ (.int .i64 0)).heap[bx]? = some (.cells #[.int .i64 0, .int .i64 0] 36 (0, 0)) := heap_set (heap_set HBX.out)
      have hEz : Ext w ((w16.setCell ⟨bx, 0, none⟩ (.int .i64 0)).setCell ⟨bx, 1, none⟩ (.int .i64 0)) := (((HXR.out.trans H12.out).trans HE16.out).set (p := ⟨bx, 0, none⟩) hbxl _).set (p := ⟨bx, 1, none⟩) hbxl _
      have HEZ := Lib.hid hEz
      have hE16 := H12.out.trans HE16.out
      have HZV := Lib.hid (SlB.keep HV16.out (keeps_re _) (hK.sub (by simp)) (hK.sub (by simp)))
      have HZA := Lib.hid (SlB.keep (SlB.keep HAR.out (keeps_re _) (KeepT.of_ext hE16) (KeepT.of_ext hE16)) (keeps_re _) (hK.sub (by simp)) (hK.sub (by simp)))
      have HZB := Lib.hid (SlB.keep (SlB.keep HBR.out (keeps_re _) (KeepT.of_ext hE16) (KeepT.of_ext hE16)) (keeps_re _) (hK.sub (by simp)) (hK.sub (by simp)))
      clear hO hK hEz hE16 x0 x1 f0 f1
      generalize (w16.setCell ⟨bx, 0, none⟩ (.int .i64 0)).setCell ⟨bx, 1, none⟩ (.int .i64 0) = wz at hh HEZ HZV HZA HZB ⊢
      have z0 := samere_b (o := 0) hh rfl
      have hlz : lz.length = la.length + lb.length + 1 := HZ2.out
      have hlz0 : (0 : Int) < lz.length := by omega
      have hez : ((lz.length : Int) == (la.length : Int) + (lb.length : Int) + 1) = true := by rw [hlz]; simp
      obtain ⟨gz, oz, csz, rfl, hcz, hcellz⟩ := HZV.out.at_ (k := 0) (by omega)
      have hkz : lz[0].kind = 1 := by
        obtain ⟨y, r, hy, hk⟩ := HZ3.out
        subst hy; exact hk
      have hlz2 : lz.length ≤ 1000 := by omega
      generalize lz[0] = xz at hcz hkz
      obtain ⟨svz, rfl, -⟩ := hcz
      have y0 := hcellz 0 _ rfl
      simp only [Nat.zero_mul, Nat.add_zero] at y0
      rw [hkz] at y0
      have HGZ := Lib.hid (fun W (hW : Ext wz W) => show Calls Try.prog 23 #[.slice (some ⟨gz, oz, none⟩) lz.length c16] W (Ret (.int .i64 ((n1 : Int) + (n2 : Int))) W) from (by
        have h := groups_any lz _ _ W (SlB.keep HZV.out (keeps_re _) (KeepT.of_ext hW) (KeepT.of_ext hW)) (by omega)
        rw [HZ4.out, Int.natCast_add] at h; exact h))
      have HGA := Lib.hid (fun W (hW : Ext wz W) => show Calls Try.prog 23 #[.slice (some ⟨ga, oa, none⟩) la.length c3] W (Ret (.int .i64 (n1 : Int)) W) from (by
        have h := groups_any la _ _ W (SlB.keep HZA.out (keeps_re _) (KeepT.of_ext hW) (KeepT.of_ext hW)) (by omega)
        rw [HN1.out] at h; exact h))
      have HGB := Lib.hid (fun W (hW : Ext wz W) => show Calls Try.prog 23 #[.slice (some ⟨gb, ob, none⟩) lb.length c4] W (Ret (.int .i64 (n2 : Int)) W) from (by
        have h := groups_any lb _ _ W (SlB.keep HZB.out (keeps_re _) (KeepT.of_ext hW) (KeepT.of_ext hW)) (by omega)
        rw [HN2.out] at h; exact h))
      have hgz : ((n1 : Int) + (n2 : Int) == (n1 : Int) + (n2 : Int)) = true := by simp
      clear hh hcellz hkz hlz
      go_wp2_with (first
        | (go_at_call 23; ((with_reducible refine (HGZ.out _ (Ext.refl _)).mono ?_); rintro e w21 ⟨rfl, hE21⟩))
        | (go_at_call 23; ((with_reducible refine (HGA.out _ hE21).mono ?_); rintro e w22 ⟨rfl, hE22⟩; have hE22 := Ext.trans hE21 hE22))
        | (go_at_call 23; ((with_reducible refine (HGB.out _ hE22).mono ?_); rintro e w23 ⟨rfl, hE23⟩; have hE23 := Ext.trans hE22 hE23))
        | (go_at_call 21; refine (HK.out _).mono ?_; rintro e w24 ⟨rfl, hE24⟩))
      go_ret
      exact ⟨rfl, (HEZ.out.trans hE23).trans hE24⟩
end Go.Proofs.Ytfblkahjefdmaaa
