/- Walk: the law RematchNumbers. -/
import Derived.Test.YtfblkahjefdmaaaGreatRmG
namespace Go.Proofs.YtfblkahjefdmaaaGreat
open Go.RowKit

namespace MX
theorem alls_few {l : List PG.Inst} {g e : Nat} (h : PG.Made l g e) {fold : Bool} {s : List Int} {at_ : Nat} {L : List (List Int)} (hL : Alls (act l fold s) s.length (blank g) at_ L) : L.length ≤ s.length + 1 - at_ ∧ ∀ r ∈ L, r.length = 2 * g + 2 := by
  induction hL with
  | out at_ h => exact ⟨Nat.zero_le _, by intro r hr; cases hr⟩
  | none_ at_ h h2 => exact ⟨Nat.zero_le _, by intro r hr; cases hr⟩
  | more at_ a b r L h1 h2 h3 h4 h5 ih =>
    obtain ⟨p, h6, h7, hm, -⟩ := first_match h h2
    have e1 := hm.first
    rw [h3] at e1
    obtain ⟨b', h8, h9, h10, -⟩ := hm.last
    rw [h4] at h8
    have e1 := Option.some.inj e1
    have e2 := Option.some.inj h8
    refine ⟨?_, fun r' hr => ?_⟩
    · have := ih.1
      rw [List.length_cons]
      split at this <;> omega
    · rcases List.mem_cons.1 hr with rfl | hr
      · exact hm.len
      · exact ih.2 r' hr
end MX
theorem twin_short {l : List PG.Inst} {g e : Nat} (h : PG.Made l g e) (hset : ∀ x ∈ l, x.set.length ≤ 1000) (hg : g ≤ 200) (s : List Int) (fold : Bool) (k : Nat) (hs : s.length ≤ 1000) (hk : k ≤ s.length) : ∃ r L, Twin s fold k l g r L := by
  obtain ⟨r, -, hF⟩ := MX.find_all (nt := MX.blank g) (MX.valid_made h fold s) (by omega) k
  obtain ⟨L, hL⟩ := MX.alls_total h fold s _ 0 (Nat.le_refl _)
  have hfew := MX.alls_few h hL
  refine ⟨r, L, ⟨fun w mb vp sv hm hv => ?_, fun w mb vp sv hm hv => ?_, fun w mb vp sv hm hv => ?_, fun w mb vp sv hm hv => ?_, fun r' hr => ?_, by omega, fun r' hr => by rw [hfew.2 r' hr]; omega⟩⟩
  · refine (mfind_any h hset hg hm hv hs k hk).mono ?_
    rintro e2 w2 ⟨hx, r2, hf, hre⟩
    obtain rfl := MX.first_one hf hF
    exact ⟨hx, hre⟩
  · refine (rfind_any h hset hg hm hv hs k hk).mono ?_
    rintro e2 w2 ⟨hx, r2, hf, hre⟩
    obtain rfl := MX.first_one hf hF
    exact ⟨hx, hre⟩
  · refine (mall_any h hset hg hm hv hs).mono ?_
    rintro e2 w2 ⟨hx, L2, v, hl, he, hv2⟩
    obtain rfl := MX.alls_one hl hL
    exact ⟨hx, v, he, hv2⟩
  · refine (rall_any h hset hg hm hv hs).mono ?_
    rintro e2 w2 ⟨hx, L2, v, hl, he, hv2⟩
    obtain rfl := MX.alls_one hl hL
    exact ⟨hx, v, he, hv2⟩
  · subst hr
    obtain ⟨p, -, -, hm, -⟩ := MX.first_match h hF
    rw [hm.len]; omega
theorem twin_long (l : List PG.Inst) (g : Nat) (s : List Int) (fold : Bool) (k : Nat) (hs : 1000 < s.length) : ∃ r L, Twin s fold k l g r L := by
  refine ⟨none, [], ⟨fun w mb vp sv hm hv => ?_, fun w mb vp sv hm hv => ?_, fun w mb vp sv hm hv => ?_, fun w mb vp sv hm hv => ?_, (fun r' hr => nomatch hr), by simp, (fun r' hr => nomatch hr)⟩⟩
  · obtain ⟨A, c, rfl, -⟩ := hv
    exact (mfind_long mb _ c A k w hs).mono fun e w' h => ⟨h.2, h.1⟩
  · obtain ⟨A, c, rfl, -⟩ := hv
    exact (rfind_long mb _ c A k w hs).mono fun e w' h => ⟨h.2, h.1⟩
  · obtain ⟨A, c, rfl, -⟩ := hv
    exact mall_long mb _ c A w hs
  · obtain ⟨A, c, rfl, -⟩ := hv
    exact rall_long mb _ c A w hs
theorem same10_short (p s : List Int) (k : Nat) (fold : Bool) (vp vs : Value) (w : World) (hp : SlC w vp p) (hs : SlC w vs s) (hpl : p.length ≤ 1000000) (hsl : s.length ≤ 1000) (hk : k ≤ s.length) (hok : PG.okp p = true) :
    Calls Tryz.prog 4 #[vp, vs, .int .i64 (k : Int), .bool fold] w (Ret (.bool true) w) :=
  same10_core p s k fold vp vs w hp hs hpl (by omega) hok fun _ _ _ _ _ hm hset hg => twin_short hm hset hg s fold k hsl hk
theorem same10_long (p s : List Int) (k : Nat) (fold : Bool) (vp vs : Value) (w : World) (hp : SlC w vp p) (hs : SlC w vs s) (hpl : p.length ≤ 1000000) (hsl : 1000 < s.length) (hsm : s.length ≤ 1000000) (hok : PG.okp p = true) :
    Calls Tryz.prog 4 #[vp, vs, .int .i64 (k : Int), .bool fold] w (Ret (.bool true) w) :=
  same10_core p s k fold vp vs w hp hs hpl hsm hok fun l _ _ _ _ _ _ _ => twin_long l _ s fold k hsl
def mPB : List ByteArray := [{ data := #[] }, { data := #[40, 97, 42, 41, 42] }, { data := #[40, 97, 124, 98, 41, 42] }, { data := #[40, 97, 42, 124, 98, 41, 43] }, { data := #[40, 63, 58, 97, 63, 41, 42, 63, 98] }, { data := #[40, 97, 63, 63, 41, 43] }, { data := #[94, 97] }, { data := #[97, 36] }, { data := #[94, 36] }, { data := #[94] }, { data := #[40, 94, 97, 124, 98, 36, 41, 43] }, { data := #[40, 97, 41, 124, 40, 98, 41] }, { data := #[40, 40, 97, 41, 124, 98, 41, 42] }, { data := #[97, 123, 50, 125] }, { data := #[40, 63, 58, 97, 98, 124, 97, 41, 40, 63, 58, 99, 124, 98, 99, 100, 41, 63] }, { data := #[91, 94, 97, 93] }, { data := #[92, 119, 43] }, { data := #[92, 87] }, { data := #[120, 42] }, { data := #[40, 97, 40, 98, 41, 63, 41, 43] }, { data := #[91, 65, 45, 67, 93] }, { data := #[46] }]
def mTB : List ByteArray := [{ data := #[] }, { data := #[97] }, { data := #[98] }, { data := #[97, 98] }, { data := #[97, 97, 98] }, { data := #[97, 98, 99, 97, 98, 99] }, { data := #[97, 88, 98, 65, 120] }, { data := #[97, 32, 98, 10, 99] }]
def mP : List (List Int) := [[], [40, 97, 42, 41, 42], [40, 97, 124, 98, 41, 42], [40, 97, 42, 124, 98, 41, 43], [40, 63, 58, 97, 63, 41, 42, 63, 98], [40, 97, 63, 63, 41, 43], [94, 97], [97, 36], [94, 36], [94], [40, 94, 97, 124, 98, 36, 41, 43], [40, 97, 41, 124, 40, 98, 41], [40, 40, 97, 41, 124, 98, 41, 42], [97, 123, 50, 125], [40, 63, 58, 97, 98, 124, 97, 41, 40, 63, 58, 99, 124, 98, 99, 100, 41, 63], [91, 94, 97, 93], [92, 119, 43], [92, 87], [120, 42], [40, 97, 40, 98, 41, 63, 41, 43], [91, 65, 45, 67, 93], [46]]
theorem mPB_signs : mPB.map signs = mP := rfl
theorem mP_ok : (mP.all PG.okp) = true := by kernel_rfl
theorem zero_ok : PG.okp [0] = true := by kernel_rfl
theorem mPB_small : ∀ x ∈ mPB, x.size ≤ 100 := by decide
theorem mTB_small : ∀ x ∈ mTB, x.size ≤ 100 := by decide
theorem str_cellM {w : World} {g k : Nat} {l : List ByteArray} {t : TypeId} (h : w.heap[g]? = some (.cells (l.map Value.string).toArray t (0, 0))) (hk : k < l.length) : w.cell? ⟨g, k, none⟩ = some (.string l[k]) := by
  rw [cell_of_row w g k _ _ _ h]
  simp [hk]
/-- A row of zeros that was made. -/
theorem zeros_sl (w : World) (n : Nat) (hn : n ≤ 1000000) : SlC (w.alloc (.cells (madeCells #[.int .i32 0] n) 21)) (.slice (some ⟨w.heap.size, 0, none⟩) n n) (List.replicate n 0) := by
  refine ⟨some ⟨w.heap.size, 0, none⟩, n, by simp, by simp, by omega, fun k x hx => ⟨w.heap.size, 0, rfl, ?_⟩, by intro h; cases h⟩
  show (w.alloc (.cells (madeCells #[.int .i32 0] n) 21)).cell? ⟨w.heap.size, 0 + k * 1, none⟩ = _
  rw [Nat.mul_one, Nat.zero_add, World.cell?_alloc_new, made_rep]
  obtain ⟨hk, hx⟩ := List.getElem?_eq_some_iff.1 hx
  simp at hk hx
  simp [hk, hx]
set_option maxRecDepth 100000 in
set_option maxHeartbeats 2000000 in
theorem rematchNumbers_any (w : World) : Calls Tryz.prog 3 #[] w (Ret (.bool true) w) := by
  have HK := Lib.hid known10_any
  have hmk1 : ∀ W, (Instr.makeSlice 24 (.int .i64 1001) (.int .i64 1001)).run Tryz.prog W = .ok (.slice (some ⟨W.heap.size, 0, none⟩) 1001 1001) (W.alloc (.cells (madeCells #[.int .i32 0] 1001) 21)) := fun W => run_make_row' (P := Tryz.prog) 24 21 (.int .i32 0) 4 Tryz.underlying24 info_c rfl .i64 .i64 1001 (by decide) (by decide) W
  have hmk2 : ∀ W, (Instr.makeSlice 24 (.int .i64 1000) (.int .i64 1000)).run Tryz.prog W = .ok (.slice (some ⟨W.heap.size, 0, none⟩) 1000 1000) (W.alloc (.cells (madeCells #[.int .i32 0] 1000) 21)) := fun W => run_make_row' (P := Tryz.prog) 24 21 (.int .i32 0) 4 Tryz.underlying24 info_c rfl .i64 .i64 1000 (by decide) (by decide) W
  go_enter Tryz.func3, Tryz.ntmps3
  go_upto_region 2 with fail
  have HB := Lib.hid (heap_alloc_new w (.cells #[.string { data := #[] }, .string { data := #[97] }, .string { data := #[98] }, .string { data := #[97, 98] }, .string { data := #[97, 97, 98] }, .string { data := #[97, 98, 99, 97, 98, 99] }, .string { data := #[97, 88, 98, 65, 120] }, .string { data := #[97, 32, 98, 10, 99] }] 9))
  have HX0 := Lib.hid (show Ext w (w.alloc (.cells #[.string { data := #[] }, .string { data := #[97] }, .string { data := #[98] }, .string { data := #[97, 98] }, .string { data := #[97, 97, 98] }, .string { data := #[97, 98, 99, 97, 98, 99] }, .string { data := #[97, 88, 98, 65, 120] }, .string { data := #[97, 32, 98, 10, 99] }] 9)) from (Ext.refl w).alloc _)
  obtain ⟨g1, hg1⟩ : ∃ g1, w.heap.size = g1 := ⟨_, rfl⟩
  rw [hg1] at HB ⊢
  generalize w.alloc _ = w1 at HB HX0 ⊢
  have HBT1 := Lib.hid (show w1.heap[g1]? = some (.cells (mTB.map Value.string).toArray 9 (0, 0)) from HB.out)
  clear HB hg1
  go_upto_region 3 with fail
  have HB := Lib.hid (heap_alloc_new w1 (.cells #[.string { data := #[] }, .string { data := #[40, 97, 42, 41, 42] }, .string { data := #[40, 97, 124, 98, 41, 42] }, .string { data := #[40, 97, 42, 124, 98, 41, 43] }, .string { data := #[40, 63, 58, 97, 63, 41, 42, 63, 98] }, .string { data := #[40, 97, 63, 63, 41, 43] }, .string { data := #[94, 97] }, .string { data := #[97, 36] }, .string { data := #[94, 36] }, .string { data := #[94] }, .string { data := #[40, 94, 97, 124, 98, 36, 41, 43] }, .string { data := #[40, 97, 41, 124, 40, 98, 41] }, .string { data := #[40, 40, 97, 41, 124, 98, 41, 42] }, .string { data := #[97, 123, 50, 125] }, .string { data := #[40, 63, 58, 97, 98, 124, 97, 41, 40, 63, 58, 99, 124, 98, 99, 100, 41, 63] }, .string { data := #[91, 94, 97, 93] }, .string { data := #[92, 119, 43] }, .string { data := #[92, 87] }, .string { data := #[120, 42] }, .string { data := #[40, 97, 40, 98, 41, 63, 41, 43] }, .string { data := #[91, 65, 45, 67, 93] }, .string { data := #[46] }] 9))
  have HX1 := Lib.hid (show Ext w1 (w1.alloc (.cells #[.string { data := #[] }, .string { data := #[40, 97, 42, 41, 42] }, .string { data := #[40, 97, 124, 98, 41, 42] }, .string { data := #[40, 97, 42, 124, 98, 41, 43] }, .string { data := #[40, 63, 58, 97, 63, 41, 42, 63, 98] }, .string { data := #[40, 97, 63, 63, 41, 43] }, .string { data := #[94, 97] }, .string { data := #[97, 36] }, .string { data := #[94, 36] }, .string { data := #[94] }, .string { data := #[40, 94, 97, 124, 98, 36, 41, 43] }, .string { data := #[40, 97, 41, 124, 40, 98, 41] }, .string { data := #[40, 40, 97, 41, 124, 98, 41, 42] }, .string { data := #[97, 123, 50, 125] }, .string { data := #[40, 63, 58, 97, 98, 124, 97, 41, 40, 63, 58, 99, 124, 98, 99, 100, 41, 63] }, .string { data := #[91, 94, 97, 93] }, .string { data := #[92, 119, 43] }, .string { data := #[92, 87] }, .string { data := #[120, 42] }, .string { data := #[40, 97, 40, 98, 41, 63, 41, 43] }, .string { data := #[91, 65, 45, 67, 93] }, .string { data := #[46] }] 9)) from (Ext.refl w1).alloc _)
  obtain ⟨g, hg⟩ : ∃ g, w1.heap.size = g := ⟨_, rfl⟩
  rw [hg] at HB ⊢
  generalize w1.alloc _ = w2 at HB HX1 ⊢
  have HBP := Lib.hid (show w2.heap[g]? = some (.cells (mPB.map Value.string).toArray 9 (0, 0)) from HB.out)
  have HBT := Lib.hid (HX1.out.heap HBT1.out)
  clear HB hg HBT1
  go_loopw [10] (fun x wr => ∃ k : Nat, k ≤ 22 ∧ x = .int .i64 (k : Nat) ∧ Ext w2 wr) (fun x _ => 22 - (intOf x).toNat)
  case atStart => exact ⟨0, Nat.zero_le _, rfl, Ext.refl _⟩
  case round =>
    obtain ⟨k, hk, rfl, hx⟩ := hrel
    have HX := Lib.hid hx
    by_cases hlt : k < 22
    · have hkl : k < mPB.length := hlt
      have d1 : decide ((k : Int) < 22) = true := by simp; omega
      have c0 := str_cellM (hx.heap HBP.out) hkl
      obtain ⟨p, hp⟩ : ∃ p, mPB[k] = p := ⟨_, rfl⟩
      have HPS := Lib.hid (show p.size ≤ 100 from hp ▸ mPB_small _ (List.getElem_mem hkl))
      have HPM := Lib.hid (show PG.okp (signs p) = true from List.all_eq_true.1 mP_ok _ (by rw [← mPB_signs, ← hp]; exact List.mem_map_of_mem (List.getElem_mem hkl)))
      rw [hp] at c0
      clear hp hx hkl
      go_upto_region 6 with fail
      clear c0
      go_loopw [16] (fun x w3 => ∃ j : Nat, j ≤ 8 ∧ x = .int .i64 (j : Nat) ∧ Ext wr w3) (fun x _ => 8 - (intOf x).toNat)
      case atStart => exact ⟨0, Nat.zero_le _, rfl, Ext.refl _⟩
      case round =>
        obtain ⟨j, hj, rfl, hx⟩ := hrel
        have HX3 := Lib.hid hx
        by_cases hlt2 : j < 8
        · have hjl : j < mTB.length := hlt2
          have d2 : decide ((j : Int) < 8) = true := by simp; omega
          have c0 := str_cellM ((HX.out.trans hx).heap HBT.out) hjl
          obtain ⟨r, hr⟩ : ∃ r, mTB[j] = r := ⟨_, rfl⟩
          have HRS := Lib.hid (show r.size ≤ 100 from hr ▸ mTB_small _ (List.getElem_mem hjl))
          rw [hr] at c0
          clear hr hx hjl
          go_upto_region 9 with fail
          clear c0
          go_loopw [6] (fun x w3 => ∃ n : Nat, n ≤ r.size + 1 ∧ x = .int .i64 (n : Nat) ∧ Ext wr w3) (fun x _ => r.size + 1 - (intOf x).toNat)
          case atStart => exact ⟨0, Nat.zero_le _, rfl, Ext.refl _⟩
          case round =>
            obtain ⟨n, hn, rfl, hx⟩ := hrel
            have HX4 := Lib.hid hx
            have hrs := HRS.out
            clear hx
            by_cases hlt3 : n ≤ r.size
            · have d3 : decide ((n : Int) ≤ (r.size : Int)) = true := by simp; omega
              have d4 : decide (n ≤ r.size) = true := by simp; omega
              have HNK := Lib.hid (show n ≤ (signs r).length by rw [signs_len]; exact hlt3)
              have HSL := Lib.hid (show (signs r).length ≤ 1000 by rw [signs_len]; omega)
              have HPL := Lib.hid (show (signs p).length ≤ 1000000 by rw [signs_len]; have := HPS.out; omega)
              go_upto_region 10 with (first
                | (go_at_call 4; go_loud (refine (same10_short (signs p) (signs r) n true _ _ w9 (HV8.out.ext HE9.out) HV9.out HPL.out HSL.out HNK.out HPM.out).mono ?_; rintro e w10 ⟨rfl, hx10⟩; have HX10 := Lib.hid (HX9.out.trans hx10); clear hx10))
                | (go_at_call 5; go_loud (refine (plain_any r w8 (by omega)).mono ?_; rintro e w9 ⟨v9, rfl, hv9, hx9⟩; have HV9 := Lib.hid (SlB.slc hv9.sl); have HE9 := Lib.hid hx9; have HX9 := Lib.hid (HX8.out.trans hx9); clear hv9 hx9))
                | (go_at_call 5; go_loud (refine (plain_any p w7 (Nat.le_trans HPS.out (by decide))).mono ?_; rintro e w8 ⟨v8, rfl, hv8, hx8⟩; have HV8 := Lib.hid (SlB.slc hv8.sl); have HX8 := Lib.hid (HX7.out.trans hx8); clear hv8 hx8))
                | (go_at_call 4; go_loud (refine (same10_short (signs p) (signs r) n false _ _ w6 (HV5.out.ext HE6.out) HV6.out HPL.out HSL.out HNK.out HPM.out).mono ?_; rintro e w7 ⟨rfl, hx7⟩; have HX7 := Lib.hid (HX6.out.trans hx7); clear hx7))
                | (go_at_call 5; go_loud (refine (plain_any r w5 (by omega)).mono ?_; rintro e w6 ⟨v6, rfl, hv6, hx6⟩; have HV6 := Lib.hid (SlB.slc hv6.sl); have HE6 := Lib.hid hx6; have HX6 := Lib.hid (HX5.out.trans hx6); clear hv6 hx6))
                | (go_at_call 5; go_loud (refine (plain_any p wr (Nat.le_trans HPS.out (by decide))).mono ?_; rintro e w5 ⟨v5, rfl, hv5, hx5⟩; have HV5 := Lib.hid (SlB.slc hv5.sl); have HX5 := Lib.hid hx5; clear hv5 hx5)))
              go_wp2_with fail
              go_roundw
              case rel => exact ⟨n + 1, by omega, by go_num, HX4.out.trans HX10.out⟩
              case measure => simp [intOf]; omega
            · obtain rfl : n = r.size + 1 := by omega
              have d3 : decide (((r.size + 1 : Nat) : Int) ≤ (r.size : Int)) = false := by simp; omega
              have d4 : decide (r.size + 1 ≤ r.size) = false := by simp
              go_wp2_with fail
              go_roundw
              case rel => exact ⟨j + 1, by omega, by go_num, HX3.out.trans HX4.out⟩
              case measure => simp [intOf]; omega
        · obtain rfl : j = 8 := by omega
          clear hx
          go_wp2_with fail
          go_roundw
          case rel => exact ⟨k + 1, by omega, by go_num, HX.out.trans HX3.out⟩
          case measure => simp [intOf]; omega
    · obtain rfl : k = 22 := by omega
      clear hx
      have HZ1 := Lib.hid (fun W => same10_long [0] (List.replicate 1001 0) 0 false (.slice (some ⟨W.heap.size, 0, none⟩) 1 1) (.slice (some ⟨W.heap.size + 1, 0, none⟩) 1001 1001) ((W.alloc (.cells #[.int .i32 0] 21)).alloc (.cells (madeCells #[.int .i32 0] 1001) 21)) ((SlB.slc (c_lit (B := 0) W [0] _ _ rfl rfl (Nat.zero_le _) (by decide))).ext ((Ext.refl _).alloc _)) (by have := zeros_sl (W.alloc (.cells #[.int .i32 0] 21)) 1001 (by decide); simpa using this) (by decide) (by simp) (by simp) zero_ok)
      have HZ2 := Lib.hid (fun W => same10_short [0] (List.replicate 1000 0) 0 false (.slice (some ⟨W.heap.size, 0, none⟩) 1 1) (.slice (some ⟨W.heap.size + 1, 0, none⟩) 1000 1000) ((W.alloc (.cells #[.int .i32 0] 21)).alloc (.cells (madeCells #[.int .i32 0] 1000) 21)) ((SlB.slc (c_lit (B := 0) W [0] _ _ rfl rfl (Nat.zero_le _) (by decide))).ext ((Ext.refl _).alloc _)) (by have := zeros_sl (W.alloc (.cells #[.int .i32 0] 21)) 1000 (by decide); simpa using this) (by decide) (by simp) (Nat.zero_le _) zero_ok)
      go_wp2_with (first
        | (go_at_call 6; go_loud (refine (HK.out _).mono ?_; rintro e wk ⟨rfl, hxk⟩; have HXK := Lib.hid (HXZ2.out.trans hxk); clear hxk))
        | (go_at_call 4; go_loud (refine (HZ2.out wz1).mono ?_; rintro e wz2 ⟨rfl, hxz⟩; have HXZ2 := Lib.hid (HXZ1.out.trans ((((Ext.refl _).alloc _).alloc _).trans hxz)); clear hxz))
        | (go_at_call 4; go_loud (refine (HZ1.out wr).mono ?_; rintro e wz1 ⟨rfl, hxz⟩; have HXZ1 := Lib.hid (HX.out.trans ((((Ext.refl _).alloc _).alloc _).trans hxz)); clear hxz)))
      go_ret
      exact ⟨rfl, HX0.out.trans (HX1.out.trans HXK.out)⟩
end Go.Proofs.YtfblkahjefdmaaaGreat
