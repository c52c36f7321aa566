/- Walk: the law ReprogNumbers. -/
import Derived.Test.YtfblkahjefdmaaaCdN
import Derived.Test.YtfblkahjefdmaaaPgD
namespace Go.Proofs.Ytfblkahjefdmaaa
open Go.RowKit

def nPB : List ByteArray := [{ data := #[] }, { data := #[97] }, { data := #[94, 36] }, { data := #[97, 124, 98] }, { data := #[97, 124, 98, 124, 99] }, { data := #[40, 97, 124, 41] }, { data := #[40, 97, 41, 40, 98, 41] }, { data := #[40, 63, 58, 97, 41] }, { data := #[91, 94, 97, 45, 99, 93] }]
def nRB : List ByteArray := [{ data := #[] }, { data := #[42] }, { data := #[43] }, { data := #[63] }, { data := #[42, 63] }, { data := #[43, 63] }, { data := #[63, 63] }, { data := #[123, 51, 125] }, { data := #[123, 48, 125] }, { data := #[123, 48, 44, 125] }, { data := #[123, 50, 44, 125] }, { data := #[123, 50, 44, 125, 63] }, { data := #[123, 48, 44, 51, 125] }, { data := #[123, 49, 44, 51, 125, 63] }, { data := #[123, 57, 125] }]
theorem nPB_signs : nPB.map signs = PG.nP := rfl
theorem nRB_signs : nRB.map signs = PG.nR := rfl
theorem nPB_small : ∀ x ∈ nPB, x.size ≤ 100 := by decide
theorem nRB_small : ∀ x ∈ nRB, x.size ≤ 100 := by decide
theorem str_cell {w : World} {g k : Nat} {l : List ByteArray} {t : TypeId} (h : w.heap[g]? = some (.cells (l.map Value.string).toArray t (0, 0))) (hk : k < l.length) : w.cell? ⟨g, k, none⟩ = some (.string l[k]) := by
  rw [cell_of_row w g k _ _ _ h]
  simp [hk]
set_option maxRecDepth 100000 in
set_option maxHeartbeats 4000000 in
theorem reprogNumbers_any (w : World) : Calls Try.prog 6 #[] w (Ret (.bool true) w) := by
  have HK := Lib.hid known9_any
  have HSM := Lib.hid same9_any
  go_enter Try.func6, Try.ntmps6
  go_upto_region 2 with fail
  have HB := Lib.hid (heap_alloc_new w (.cells #[.string { data := #[] }, .string { data := #[97] }, .string { data := #[94, 36] }, .string { data := #[97, 124, 98] }, .string { data := #[97, 124, 98, 124, 99] }, .string { data := #[40, 97, 124, 41] }, .string { data := #[40, 97, 41, 40, 98, 41] }, .string { data := #[40, 63, 58, 97, 41] }, .string { data := #[91, 94, 97, 45, 99, 93] }] 9))
  have HX0 := Lib.hid (show Ext w (w.alloc (.cells #[.string { data := #[] }, .string { data := #[97] }, .string { data := #[94, 36] }, .string { data := #[97, 124, 98] }, .string { data := #[97, 124, 98, 124, 99] }, .string { data := #[40, 97, 124, 41] }, .string { data := #[40, 97, 41, 40, 98, 41] }, .string { data := #[40, 63, 58, 97, 41] }, .string { data := #[91, 94, 97, 45, 99, 93] }] 9)) from (Ext.refl w).alloc _)
  obtain ⟨g, hg⟩ : ∃ g, w.heap.size = g := ⟨_, rfl⟩
  rw [hg] at HB ⊢
  generalize w.alloc _ = w1 at HB HX0 ⊢
  have HBS := Lib.hid (show w1.heap[g]? = some (.cells (nPB.map Value.string).toArray 9 (0, 0)) from HB.out)
  clear HB hg
  go_loopw [8] (fun x wr => ∃ k : Nat, k ≤ 9 ∧ x = .int .i64 (k : Nat) ∧ Ext w1 wr) (fun x _ => 9 - (intOf x).toNat)
  case atStart => exact ⟨0, Nat.zero_le _, rfl, Ext.refl _⟩
  case round =>
    obtain ⟨k, hk, rfl, hx⟩ := hrel
    have HX := Lib.hid hx
    by_cases hlt : k < 9
    · have hkl : k < nPB.length := hlt
      have d1 : decide ((k : Int) < 9) = true := by simp; omega
      have c0 := str_cell (hx.heap HBS.out) hkl
      obtain ⟨p, hp⟩ : ∃ p, nPB[k] = p := ⟨_, rfl⟩
      have HPS := Lib.hid (show p.size ≤ 100 from hp ▸ nPB_small _ (List.getElem_mem hkl))
      have HPM := Lib.hid (show signs p ∈ PG.nP by rw [← nPB_signs, ← hp]; exact List.mem_map_of_mem (List.getElem_mem hkl))
      rw [hp] at c0
      clear hp hx hkl
      go_upto_region 5 with fail
      have HB2 := Lib.hid (heap_alloc_new wr (.cells #[.string { data := #[] }, .string { data := #[42] }, .string { data := #[43] }, .string { data := #[63] }, .string { data := #[42, 63] }, .string { data := #[43, 63] }, .string { data := #[63, 63] }, .string { data := #[123, 51, 125] }, .string { data := #[123, 48, 125] }, .string { data := #[123, 48, 44, 125] }, .string { data := #[123, 50, 44, 125] }, .string { data := #[123, 50, 44, 125, 63] }, .string { data := #[123, 48, 44, 51, 125] }, .string { data := #[123, 49, 44, 51, 125, 63] }, .string { data := #[123, 57, 125] }] 9))
      have HX2 := Lib.hid (show Ext w1 (wr.alloc (.cells #[.string { data := #[] }, .string { data := #[42] }, .string { data := #[43] }, .string { data := #[63] }, .string { data := #[42, 63] }, .string { data := #[43, 63] }, .string { data := #[63, 63] }, .string { data := #[123, 51, 125] }, .string { data := #[123, 48, 125] }, .string { data := #[123, 48, 44, 125] }, .string { data := #[123, 50, 44, 125] }, .string { data := #[123, 50, 44, 125, 63] }, .string { data := #[123, 48, 44, 51, 125] }, .string { data := #[123, 49, 44, 51, 125, 63] }, .string { data := #[123, 57, 125] }] 9)) from HX.out.alloc _)
      obtain ⟨g2, hg2⟩ : ∃ g2, wr.heap.size = g2 := ⟨_, rfl⟩
      rw [hg2] at HB2 ⊢
      generalize wr.alloc _ = w2 at HB2 HX2 ⊢
      have HBR := Lib.hid (show w2.heap[g2]? = some (.cells (nRB.map Value.string).toArray 9 (0, 0)) from HB2.out)
      clear HB2 hg2 c0 HX
      go_loopw [14] (fun x wr => ∃ j : Nat, j ≤ 15 ∧ x = .int .i64 (j : Nat) ∧ Ext w2 wr) (fun x _ => 15 - (intOf x).toNat)
      case atStart => exact ⟨0, Nat.zero_le _, rfl, Ext.refl _⟩
      case round =>
        obtain ⟨j, hj, rfl, hx⟩ := hrel
        have HX := Lib.hid hx
        by_cases hlt2 : j < 15
        · have hjl : j < nRB.length := hlt2
          have d2 : decide ((j : Int) < 15) = true := by simp; omega
          have c0 := str_cell (hx.heap HBR.out) hjl
          obtain ⟨r, hr⟩ : ∃ r, nRB[j] = r := ⟨_, rfl⟩
          have HRS := Lib.hid (show r.size ≤ 100 from hr ▸ nRB_small _ (List.getElem_mem hjl))
          have HRM := Lib.hid (show signs r ∈ PG.nR by rw [← nRB_signs, ← hr]; exact List.mem_map_of_mem (List.getElem_mem hjl))
          rw [hr] at c0
          clear hr hx hjl
          go_upto_region 8 with fail
          clear c0
          go_loopw [5] (fun x w3 => ∃ n : Nat, n ≤ 4 ∧ x = .int .i64 (n : Nat) ∧ Ext wr w3) (fun x _ => 4 - (intOf x).toNat)
          case atStart => exact ⟨0, Nat.zero_le _, rfl, Ext.refl _⟩
          case round =>
            obtain ⟨n, hn, rfl, hx⟩ := hrel
            have HX3 := Lib.hid hx
            clear hx
            by_cases hlt3 : n < 4
            · have d3 : decide ((n : Int) < 4) = true := by simp; omega
              have HOK := Lib.hid (PG.numbers_ok HPM.out HRM.out hlt3)
              have HLN := Lib.hid (show (PG.rpt (signs r) n (signs p)).length ≤ 35184372088000 by
                rw [PG.rpt_len, signs_len, signs_len]
                have := HPS.out
                have := HRS.out
                have h2 : n * (r.size + 4) ≤ 4 * 104 := Nat.mul_le_mul (by omega) (by omega)
                omega)
              go_wp2_with (first
                | (go_at_call 27; go_loud (refine (plain_any p _ (Nat.le_trans HPS.out (by decide))).mono ?_; rintro e w4 ⟨v4, rfl, hv4, hx4⟩; have HV4 := Lib.hid (SlB.slc hv4.sl); have HX4 := Lib.hid hx4; clear hv4 hx4))
                | (go_at_call 26; go_loud (refine (repeated9_any (signs p) n r _ w4 HV4.out (by omega) (by rw [signs_len]; exact HPS.out) HRS.out).mono ?_; rintro e w5 ⟨v5, rfl, hv5, hx5⟩; have HV5 := Lib.hid hv5; have HX5 := Lib.hid (HX4.out.trans hx5); clear hv5 hx5))
                | (go_at_call 25; go_loud (refine (HSM.out _ _ w5 HV5.out HLN.out HOK.out).mono ?_; rintro e w6 ⟨rfl, hx6⟩; have HX6 := Lib.hid (HX5.out.trans hx6); clear hx6)))
              go_roundw
              case rel => exact ⟨n + 1, by omega, by go_num, HX3.out.trans HX6.out⟩
              case measure => simp [intOf]; omega
            · obtain rfl : n = 4 := by omega
              go_wp2_with fail
              go_roundw
              case rel => exact ⟨j + 1, by omega, by go_num, HX.out.trans HX3.out⟩
              case measure => simp [intOf]; omega
        · obtain rfl : j = 15 := by omega
          clear hx
          go_wp2_with fail
          go_roundw
          case rel => exact ⟨k + 1, by omega, by go_num, HX2.out.trans HX.out⟩
          case measure => simp [intOf]; omega
    · obtain rfl : k = 9 := by omega
      clear hx
      go_wp2_with (first
        | (go_at_call 28; go_loud (refine (HK.out _).mono ?_; rintro e wk ⟨rfl, hk9⟩; have HXK := Lib.hid (HXs4.out.trans hk9); clear hk9))
        | (go_at_call 25; go_loud (refine (HSM.out _ _ wr4 HVr4.out (by rw [PG.rpt_len]; simp; decide) PG.more_e).mono ?_; rintro e ws4 ⟨rfl, hxs4⟩; have HXs4 := Lib.hid (HXr4.out.trans hxs4); clear hxs4))
        | (go_at_call 26; go_loud (refine (repeated9_any [] 6 { data := #[123, 57, 44, 125] } _ ws3 SlR.nil_ (by decide) (by simp) (by decide)).mono ?_; rintro e wr4 ⟨vr4, rfl, hvr4, hxr4⟩; have HVr4 := Lib.hid hvr4; have HXr4 := Lib.hid (Ext.trans HXs3.out hxr4); clear hvr4 hxr4))
        | (go_at_call 25; go_loud (refine (HSM.out _ _ wr3 HVr3.out (by rw [PG.rpt_len]; simp; decide) PG.more_d).mono ?_; rintro e ws3 ⟨rfl, hxs3⟩; have HXs3 := Lib.hid (HXr3.out.trans hxs3); clear hxs3))
        | (go_at_call 26; go_loud (refine (repeated9_any [97] 3 { data := #[123, 57, 125] } _ (ws2.alloc (.cells #[.int .i32 97] 21)) (SlB.slc (c_lit (B := 0) ws2 [97] _ _ (by simp) rfl (Nat.zero_le _) (by decide))) (by decide) (by simp) (by decide)).mono ?_; rintro e wr3 ⟨vr3, rfl, hvr3, hxr3⟩; have HVr3 := Lib.hid hvr3; have HXr3 := Lib.hid (Ext.trans (HXs2.out.alloc _) hxr3); clear hvr3 hxr3))
        | (go_at_call 25; go_loud (refine (HSM.out _ _ wr2 HVr2.out (by rw [PG.rpt_len]; simp; decide) PG.more_c).mono ?_; rintro e ws2 ⟨rfl, hxs2⟩; have HXs2 := Lib.hid (HXr2.out.trans hxs2); clear hxs2))
        | (go_at_call 26; go_loud (refine (repeated9_any [97] 2 { data := #[123, 57, 125] } _ (ws1.alloc (.cells #[.int .i32 97] 21)) (SlB.slc (c_lit (B := 0) ws1 [97] _ _ (by simp) rfl (Nat.zero_le _) (by decide))) (by decide) (by simp) (by decide)).mono ?_; rintro e wr2 ⟨vr2, rfl, hvr2, hxr2⟩; have HVr2 := Lib.hid hvr2; have HXr2 := Lib.hid (Ext.trans (HXs1.out.alloc _) hxr2); clear hvr2 hxr2))
        | (go_at_call 25; go_loud (refine (HSM.out _ _ wr1 HVr1.out (by rw [PG.rpt_len]; simp; decide) PG.more_b).mono ?_; rintro e ws1 ⟨rfl, hxs1⟩; have HXs1 := Lib.hid (HXr1.out.trans hxs1); clear hxs1))
        | (go_at_call 26; go_loud (refine (repeated9_any [] 7 { data := #[123, 48, 44, 57, 125] } _ ws0 SlR.nil_ (by decide) (by simp) (by decide)).mono ?_; rintro e wr1 ⟨vr1, rfl, hvr1, hxr1⟩; have HVr1 := Lib.hid hvr1; have HXr1 := Lib.hid (Ext.trans HXs0.out hxr1); clear hvr1 hxr1))
        | (go_at_call 25; go_loud (refine (HSM.out _ _ wr0 HVr0.out (by rw [PG.rpt_len]; simp; decide) PG.more_a).mono ?_; rintro e ws0 ⟨rfl, hxs0⟩; have HXs0 := Lib.hid (HXr0.out.trans hxs0); clear hxs0))
        | (go_at_call 26; go_loud (refine (repeated9_any [] 8 { data := #[123, 57, 125] } _ wr SlR.nil_ (by decide) (by simp) (by decide)).mono ?_; rintro e wr0 ⟨vr0, rfl, hvr0, hxr0⟩; have HVr0 := Lib.hid hvr0; have HXr0 := Lib.hid (Ext.trans HX.out hxr0); clear hvr0 hxr0)))
      go_ret
      exact ⟨rfl, HX0.out.trans HXK.out⟩
end Go.Proofs.Ytfblkahjefdmaaa
