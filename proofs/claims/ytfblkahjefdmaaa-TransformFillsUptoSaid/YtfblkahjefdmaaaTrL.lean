/- Walk: the law TransformFull. -/
import Derived.Test.YtfblkahjefdmaaaTrK
namespace Go.Proofs.Ytfblkahjefdmaaa
open Go.RowKit

theorem rep_set {n k : Nat} {r : Int} (h : k < n) : (List.replicate k r ++ List.replicate (n - k) 0).set k r = List.replicate (k + 1) r ++ List.replicate (n - (k + 1)) (0 : Int) := by
  apply List.ext_getElem?
  intro i
  rw [List.getElem?_set]
  simp only [List.length_append, List.length_replicate, List.getElem?_append, List.getElem?_replicate]
  repeat' split
  all_goals first | rfl | omega
set_option maxRecDepth 100000 in
set_option maxHeartbeats 4000000 in
theorem transformFull_any (r k0 : Int) (w : World) : Calls Try.prog 15 #[.int .i32 r, .int .i64 k0] w (Ret (.bool true) w) := by
  have HK := Lib.hid known12_any
  have HSG := Lib.hid (fun w' => rsign_any r w')
  go_enter Try.func15, Try.ntmps15
  rcases hsv : RX.isSign r with _ | _
  · have HSV := Lib.hid hsv
    have HQ := Lib.hid (show RX.isSign 114 = true ∧ (114 : Int) ≠ 10 by decide)
    clear hsv
    go_upto_region 3 with (go_at_call 51; go_loud (refine (HSG.out _).mono ?_; rw [HSV.out]; rintro e w1 ⟨rfl, rfl⟩))
    clear HSV
    go_upto_region 4 with (go_at_call 18; go_loud (refine (kindex_any _ _ (by omega) (by omega) _).mono ?_; rintro e w3 ⟨⟨x, hx, rfl⟩, rfl⟩))
    obtain ⟨n, hn⟩ : ∃ n : Nat, 498 + x = n := ⟨_, rfl⟩
    have hn1 : (498 : Int) + (x : Int) = (n : Int) := by omega
    have hn2 : 498 ≤ n := by omega
    have hn3 : n ≤ 502 := by omega
    rw [hn1]
    clear hn hn1 hx
    obtain ⟨i0, hi, hz0, hz1, hz2⟩ := info_parts info_c
    have hg0 : (w3.alloc (.cells (madeCells #[.int .i32 0] n) 21)).heap[w3.heap.size]? = some (.cells (((List.replicate 0 (114) ++ List.replicate (n - 0) (0 : Int)).map (Value.int .i32)).toArray) 21 (0, 0)) := by
      rw [heap_alloc_new, made_rep]
      simp
    have HE0 := Lib.hid ((Ext.refl w3).alloc (.cells (madeCells #[.int .i32 0] n) 21))
    go_upto_region 5 with (refine wpList_make_row _ rfl _ _ 23 rfl 21 i0 (.int .i32 0) Try.underlying23 hi hz0 hz1 rfl .i64 .i64 n rfl rfl (by rw [hz2]; omega) (by omega) ?_)
    generalize w3.alloc _ = w4 at hg0 HE0 ⊢
    generalize hsb : w3.heap.size = sb at hg0 ⊢
    have HSB := Lib.hid (Nat.le_of_eq hsb)
    have HG0 := Lib.hid hg0
    clear hg0 hsb hi hz0 hz1 hz2
    go_wp2_with fail
    go_loopw [25] (fun x25 wr => ∃ k : Nat, x25 = .int .i64 (k : Int) ∧ k ≤ n ∧ Ext w3 wr ∧ wr.heap[sb]? = some (.cells (((List.replicate k (114) ++ List.replicate (n - k) (0 : Int)).map (Value.int .i32)).toArray) 21 (0, 0))) (fun x25 _ => n - (intOf x25).toNat)
    case atStart => exact ⟨0, rfl, Nat.zero_le _, HE0.out, HG0.out⟩
    case round =>
      obtain ⟨k, rfl, hk, hx, hh⟩ := hrel
      have HX := Lib.hid hx
      have HH := Lib.hid hh
      by_cases hlt : k < n
      · have hd : decide ((k : Int) < (n : Int)) = true := by simp; omega
        have hki : (k : Int) < (n : Int) := by omega
        have fr := frozen_of_row wr sb k _ _ hh
        have q0 : ∃ u : Int, wr.cell? ⟨sb, k, none⟩ = some (.int .i32 u) := by
          rw [cell_of_row wr sb k _ _ _ hh]
          have hlen : k < (List.replicate k (114) ++ List.replicate (n - k) (0 : Int)).length := by simp; omega
          exact ⟨_, by rw [List.getElem?_toArray, List.getElem?_map, List.getElem?_eq_getElem hlen]; rfl⟩
        obtain ⟨u, q0⟩ := q0
        clear hx hh
        go_wp2_with fail
        go_roundw
        case rel =>
          refine ⟨k + 1, by go_num, hlt, HX.out.set (p := ⟨sb, k, none⟩) HSB.out _, ?_⟩
          have h9 := heap_set (o := k) (u := .int .i32 (114)) HH.out
          rw [h9, ← rep_set hlt, List.map_set]
          simp
        case measure => simp [intOf]; omega
      have hd : decide ((k : Int) < (n : Int)) = false := by simp; omega
      obtain rfl : k = n := by omega
      have hh2 : wr.heap[sb]? = some (.cells ((List.replicate k (114)).map (Value.int .i32)).toArray 21 (0, 0)) := by rw [hh, Nat.sub_self]; simp
      have hsl : SlC wr (.slice (some ⟨sb, 0, none⟩) k k) (List.replicate k (114)) := by
        refine ⟨_, k, by rw [List.length_replicate], by rw [List.length_replicate]; exact Nat.le_refl _, by omega, fun i y hy => ⟨sb, 0, rfl, ?_⟩, by intro h; cases h⟩
        rw [Nat.mul_one, Nat.zero_add]
        show wr.cell? _ = _
        rw [cell_of_row wr sb i _ _ _ hh2, List.getElem?_toArray, List.getElem?_map, hy]
        rfl
      have HSL := Lib.hid hsl
      clear hx hh hh2 hsl HH hlt hk
      go_upto_region 11 with fail
      have HTW := Lib.hid (slf_two (w := wr) rfl rfl)
      have HSW := Lib.hid (SlC.ext HSL.out ((Ext.refl wr).alloc (.cells #[.int .i64 1, .int .i64 0, .int .i64 0, .slice none 0 0, .slice none 0 0, .int .i64 1, .int .i64 0, .int .i64 0, .slice none 0 0, .slice none 0 0] 82)))
      have HXW := Lib.hid (HX.out.alloc (.cells #[.int .i64 1, .int .i64 0, .int .i64 0, .slice none 0 0, .slice none 0 0, .int .i64 1, .int .i64 0, .int .i64 0, .slice none 0 0, .slice none 0 0] 82))
      generalize wr.alloc _ = w5 at HTW HSW HXW ⊢
      generalize wr.heap.size = tb at HTW ⊢
      go_wp2_with fail
      refine (trun_any (List.replicate k (114)) [46] [TR.gF, TR.gF] _ _ _ true false _ ?h1 ?h2 ?h3).mono ?_
      case h1 => exact SlC.ext HSW.out ((Ext.refl _).alloc _)
      case h2 => exact SlB.slc (c_lit (B := 0) _ [46] _ _ (by simp) rfl (Nat.zero_le _) (by decide))
      case h3 => exact SlF.ext HTW.out ((Ext.refl _).alloc _)
      rintro e w6 ⟨hE6, v6, text, code, bat, rfl, ho6, hq6⟩
      obtain ⟨hr1, hr2⟩ := TR.run_dot (fun x hx => by rw [List.eq_of_mem_replicate hx]; exact HQ.out.2) (by rw [List.all_eq_true]; intro x hx; rw [List.eq_of_mem_replicate hx]; exact HQ.out.1) (by rw [List.length_replicate]; omega) hq6
      rw [List.length_replicate] at hr1 hr2
      have hx6 := ((Ext.refl w5).alloc (.cells #[.int .i32 46] 21)).trans hE6
      have hy6 := hx6.alloc (.cells #[.int .i64 code, .int .i64 bat] 36)
      have f6 : (w6.alloc (.cells #[.int .i64 code, .int .i64 bat] 36)).cell? ⟨w6.heap.size, 0, none⟩ = some (.int .i64 code) := by rw [World.cell?_alloc_new]; rfl
      have g6 : (w6.alloc (.cells #[.int .i64 code, .int .i64 bat] 36)).cell? ⟨w6.heap.size, 1, none⟩ = some (.int .i64 bat) := by rw [World.cell?_alloc_new]; rfl
      have HT6 := Lib.hid (SlF.ext HTW.out hy6)
      have HX6 := Lib.hid (HXW.out.trans hy6)
      obtain ⟨A6, c6, rfl, -⟩ := ho6.form
      clear hE6 ho6 hq6 hx6 hy6 HTW HSW HXW
      go_upto_region 12 with fail
      generalize w6.alloc _ = w7 at f6 g6 HT6 HX6 ⊢
      generalize w6.heap.size = fb at f6 g6 ⊢
      have s1 : IntKind.i64.wrap (2 * (k : Int)) = 2 * (k : Int) := IntWalk.i64_in _ (by omega)
      by_cases hbig : 1000 < 2 * k
      · have d1 : decide ((1000 : Int) < 2 * (k : Int)) = true := decide_eq_true (by omega)
        obtain ⟨rfl, rfl, rfl⟩ := hr2 hbig
        clear hr1 hr2 hbig
        go_wp2_with (go_at_call 47; go_loud (refine (HK.out _).mono ?_; rintro e w8 ⟨rfl, hE8⟩))
        go_ret
        exact ⟨rfl, HX6.out.trans hE8⟩
      · have d1 : decide ((1000 : Int) < 2 * (k : Int)) = false := decide_eq_false (by omega)
        obtain ⟨rfl, rfl, hlen⟩ := hr1 (by omega)
        have d2 : ((text.length : Int) == 2 * (k : Int)) = true := by rw [hlen]; simp
        have HMY := Lib.hid (show FM.may [TR.gF, TR.gF] = true by decide)
        clear hr1 hr2 hbig hlen
        go_wp2_with (first
          | (go_at_call 52; go_loud (refine (may2_any _ _ _ HT6.out).mono ?_; rw [HMY.out]; rintro e w8 ⟨rfl, hE8⟩; have HX8 := Lib.hid (HX6.out.trans hE8); clear hE8))
          | (go_at_call 47; go_loud (refine (HK.out _).mono ?_; rintro e w9 ⟨rfl, hE9⟩)))
        go_ret
        exact ⟨rfl, HX8.out.trans hE9⟩
  have HSV := Lib.hid hsv
  by_cases hr : r = 10
  · have b10 : (r == 10) = true := by simpa using hr
    have HQ := Lib.hid (show RX.isSign 114 = true ∧ (114 : Int) ≠ 10 by decide)
    clear hsv hr
    go_upto_region 3 with (go_at_call 51; go_loud (refine (HSG.out _).mono ?_; rw [HSV.out]; rintro e w1 ⟨rfl, rfl⟩))
    clear HSV
    go_upto_region 4 with (go_at_call 18; go_loud (refine (kindex_any _ _ (by omega) (by omega) _).mono ?_; rintro e w3 ⟨⟨x, hx, rfl⟩, rfl⟩))
    obtain ⟨n, hn⟩ : ∃ n : Nat, 498 + x = n := ⟨_, rfl⟩
    have hn1 : (498 : Int) + (x : Int) = (n : Int) := by omega
    have hn2 : 498 ≤ n := by omega
    have hn3 : n ≤ 502 := by omega
    rw [hn1]
    clear hn hn1 hx
    obtain ⟨i0, hi, hz0, hz1, hz2⟩ := info_parts info_c
    have hg0 : (w3.alloc (.cells (madeCells #[.int .i32 0] n) 21)).heap[w3.heap.size]? = some (.cells (((List.replicate 0 (114) ++ List.replicate (n - 0) (0 : Int)).map (Value.int .i32)).toArray) 21 (0, 0)) := by
      rw [heap_alloc_new, made_rep]
      simp
    have HE0 := Lib.hid ((Ext.refl w3).alloc (.cells (madeCells #[.int .i32 0] n) 21))
    go_upto_region 5 with (refine wpList_make_row _ rfl _ _ 23 rfl 21 i0 (.int .i32 0) Try.underlying23 hi hz0 hz1 rfl .i64 .i64 n rfl rfl (by rw [hz2]; omega) (by omega) ?_)
    generalize w3.alloc _ = w4 at hg0 HE0 ⊢
    generalize hsb : w3.heap.size = sb at hg0 ⊢
    have HSB := Lib.hid (Nat.le_of_eq hsb)
    have HG0 := Lib.hid hg0
    clear hg0 hsb hi hz0 hz1 hz2
    go_wp2_with fail
    go_loopw [25] (fun x25 wr => ∃ k : Nat, x25 = .int .i64 (k : Int) ∧ k ≤ n ∧ Ext w3 wr ∧ wr.heap[sb]? = some (.cells (((List.replicate k (114) ++ List.replicate (n - k) (0 : Int)).map (Value.int .i32)).toArray) 21 (0, 0))) (fun x25 _ => n - (intOf x25).toNat)
    case atStart => exact ⟨0, rfl, Nat.zero_le _, HE0.out, HG0.out⟩
    case round =>
      obtain ⟨k, rfl, hk, hx, hh⟩ := hrel
      have HX := Lib.hid hx
      have HH := Lib.hid hh
      by_cases hlt : k < n
      · have hd : decide ((k : Int) < (n : Int)) = true := by simp; omega
        have hki : (k : Int) < (n : Int) := by omega
        have fr := frozen_of_row wr sb k _ _ hh
        have q0 : ∃ u : Int, wr.cell? ⟨sb, k, none⟩ = some (.int .i32 u) := by
          rw [cell_of_row wr sb k _ _ _ hh]
          have hlen : k < (List.replicate k (114) ++ List.replicate (n - k) (0 : Int)).length := by simp; omega
          exact ⟨_, by rw [List.getElem?_toArray, List.getElem?_map, List.getElem?_eq_getElem hlen]; rfl⟩
        obtain ⟨u, q0⟩ := q0
        clear hx hh
        go_wp2_with fail
        go_roundw
        case rel =>
          refine ⟨k + 1, by go_num, hlt, HX.out.set (p := ⟨sb, k, none⟩) HSB.out _, ?_⟩
          have h9 := heap_set (o := k) (u := .int .i32 (114)) HH.out
          rw [h9, ← rep_set hlt, List.map_set]
          simp
        case measure => simp [intOf]; omega
      have hd : decide ((k : Int) < (n : Int)) = false := by simp; omega
      obtain rfl : k = n := by omega
      have hh2 : wr.heap[sb]? = some (.cells ((List.replicate k (114)).map (Value.int .i32)).toArray 21 (0, 0)) := by rw [hh, Nat.sub_self]; simp
      have hsl : SlC wr (.slice (some ⟨sb, 0, none⟩) k k) (List.replicate k (114)) := by
        refine ⟨_, k, by rw [List.length_replicate], by rw [List.length_replicate]; exact Nat.le_refl _, by omega, fun i y hy => ⟨sb, 0, rfl, ?_⟩, by intro h; cases h⟩
        rw [Nat.mul_one, Nat.zero_add]
        show wr.cell? _ = _
        rw [cell_of_row wr sb i _ _ _ hh2, List.getElem?_toArray, List.getElem?_map, hy]
        rfl
      have HSL := Lib.hid hsl
      clear hx hh hh2 hsl HH hlt hk
      go_upto_region 11 with fail
      have HTW := Lib.hid (slf_two (w := wr) rfl rfl)
      have HSW := Lib.hid (SlC.ext HSL.out ((Ext.refl wr).alloc (.cells #[.int .i64 1, .int .i64 0, .int .i64 0, .slice none 0 0, .slice none 0 0, .int .i64 1, .int .i64 0, .int .i64 0, .slice none 0 0, .slice none 0 0] 82)))
      have HXW := Lib.hid (HX.out.alloc (.cells #[.int .i64 1, .int .i64 0, .int .i64 0, .slice none 0 0, .slice none 0 0, .int .i64 1, .int .i64 0, .int .i64 0, .slice none 0 0, .slice none 0 0] 82))
      generalize wr.alloc _ = w5 at HTW HSW HXW ⊢
      generalize wr.heap.size = tb at HTW ⊢
      go_wp2_with fail
      refine (trun_any (List.replicate k (114)) [46] [TR.gF, TR.gF] _ _ _ true false _ ?h1 ?h2 ?h3).mono ?_
      case h1 => exact SlC.ext HSW.out ((Ext.refl _).alloc _)
      case h2 => exact SlB.slc (c_lit (B := 0) _ [46] _ _ (by simp) rfl (Nat.zero_le _) (by decide))
      case h3 => exact SlF.ext HTW.out ((Ext.refl _).alloc _)
      rintro e w6 ⟨hE6, v6, text, code, bat, rfl, ho6, hq6⟩
      obtain ⟨hr1, hr2⟩ := TR.run_dot (fun x hx => by rw [List.eq_of_mem_replicate hx]; exact HQ.out.2) (by rw [List.all_eq_true]; intro x hx; rw [List.eq_of_mem_replicate hx]; exact HQ.out.1) (by rw [List.length_replicate]; omega) hq6
      rw [List.length_replicate] at hr1 hr2
      have hx6 := ((Ext.refl w5).alloc (.cells #[.int .i32 46] 21)).trans hE6
      have hy6 := hx6.alloc (.cells #[.int .i64 code, .int .i64 bat] 36)
      have f6 : (w6.alloc (.cells #[.int .i64 code, .int .i64 bat] 36)).cell? ⟨w6.heap.size, 0, none⟩ = some (.int .i64 code) := by rw [World.cell?_alloc_new]; rfl
      have g6 : (w6.alloc (.cells #[.int .i64 code, .int .i64 bat] 36)).cell? ⟨w6.heap.size, 1, none⟩ = some (.int .i64 bat) := by rw [World.cell?_alloc_new]; rfl
      have HT6 := Lib.hid (SlF.ext HTW.out hy6)
      have HX6 := Lib.hid (HXW.out.trans hy6)
      obtain ⟨A6, c6, rfl, -⟩ := ho6.form
      clear hE6 ho6 hq6 hx6 hy6 HTW HSW HXW
      go_upto_region 12 with fail
      generalize w6.alloc _ = w7 at f6 g6 HT6 HX6 ⊢
      generalize w6.heap.size = fb at f6 g6 ⊢
      have s1 : IntKind.i64.wrap (2 * (k : Int)) = 2 * (k : Int) := IntWalk.i64_in _ (by omega)
      by_cases hbig : 1000 < 2 * k
      · have d1 : decide ((1000 : Int) < 2 * (k : Int)) = true := decide_eq_true (by omega)
        obtain ⟨rfl, rfl, rfl⟩ := hr2 hbig
        clear hr1 hr2 hbig
        go_wp2_with (go_at_call 47; go_loud (refine (HK.out _).mono ?_; rintro e w8 ⟨rfl, hE8⟩))
        go_ret
        exact ⟨rfl, HX6.out.trans hE8⟩
      · have d1 : decide ((1000 : Int) < 2 * (k : Int)) = false := decide_eq_false (by omega)
        obtain ⟨rfl, rfl, hlen⟩ := hr1 (by omega)
        have d2 : ((text.length : Int) == 2 * (k : Int)) = true := by rw [hlen]; simp
        have HMY := Lib.hid (show FM.may [TR.gF, TR.gF] = true by decide)
        clear hr1 hr2 hbig hlen
        go_wp2_with (first
          | (go_at_call 52; go_loud (refine (may2_any _ _ _ HT6.out).mono ?_; rw [HMY.out]; rintro e w8 ⟨rfl, hE8⟩; have HX8 := Lib.hid (HX6.out.trans hE8); clear hE8))
          | (go_at_call 47; go_loud (refine (HK.out _).mono ?_; rintro e w9 ⟨rfl, hE9⟩)))
        go_ret
        exact ⟨rfl, HX8.out.trans hE9⟩
  have b10 : (r == 10) = false := by simpa using hr
  have HQ := Lib.hid (And.intro hsv hr)
  clear hsv hr
  go_upto_region 3 with (go_at_call 51; go_loud (refine (HSG.out _).mono ?_; rw [HSV.out]; rintro e w1 ⟨rfl, rfl⟩))
  clear HSV
  go_upto_region 4 with (go_at_call 18; go_loud (refine (kindex_any _ _ (by omega) (by omega) _).mono ?_; rintro e w3 ⟨⟨x, hx, rfl⟩, rfl⟩))
  obtain ⟨n, hn⟩ : ∃ n : Nat, 498 + x = n := ⟨_, rfl⟩
  have hn1 : (498 : Int) + (x : Int) = (n : Int) := by omega
  have hn2 : 498 ≤ n := by omega
  have hn3 : n ≤ 502 := by omega
  rw [hn1]
  clear hn hn1 hx
  obtain ⟨i0, hi, hz0, hz1, hz2⟩ := info_parts info_c
  have hg0 : (w3.alloc (.cells (madeCells #[.int .i32 0] n) 21)).heap[w3.heap.size]? = some (.cells (((List.replicate 0 (r) ++ List.replicate (n - 0) (0 : Int)).map (Value.int .i32)).toArray) 21 (0, 0)) := by
    rw [heap_alloc_new, made_rep]
    simp
  have HE0 := Lib.hid ((Ext.refl w3).alloc (.cells (madeCells #[.int .i32 0] n) 21))
  go_upto_region 5 with (refine wpList_make_row _ rfl _ _ 23 rfl 21 i0 (.int .i32 0) Try.underlying23 hi hz0 hz1 rfl .i64 .i64 n rfl rfl (by rw [hz2]; omega) (by omega) ?_)
  generalize w3.alloc _ = w4 at hg0 HE0 ⊢
  generalize hsb : w3.heap.size = sb at hg0 ⊢
  have HSB := Lib.hid (Nat.le_of_eq hsb)
  have HG0 := Lib.hid hg0
  clear hg0 hsb hi hz0 hz1 hz2
  go_wp2_with fail
  go_loopw [25] (fun x25 wr => ∃ k : Nat, x25 = .int .i64 (k : Int) ∧ k ≤ n ∧ Ext w3 wr ∧ wr.heap[sb]? = some (.cells (((List.replicate k (r) ++ List.replicate (n - k) (0 : Int)).map (Value.int .i32)).toArray) 21 (0, 0))) (fun x25 _ => n - (intOf x25).toNat)
  case atStart => exact ⟨0, rfl, Nat.zero_le _, HE0.out, HG0.out⟩
  case round =>
    obtain ⟨k, rfl, hk, hx, hh⟩ := hrel
    have HX := Lib.hid hx
    have HH := Lib.hid hh
    by_cases hlt : k < n
    · have hd : decide ((k : Int) < (n : Int)) = true := by simp; omega
      have hki : (k : Int) < (n : Int) := by omega
      have fr := frozen_of_row wr sb k _ _ hh
      have q0 : ∃ u : Int, wr.cell? ⟨sb, k, none⟩ = some (.int .i32 u) := by
        rw [cell_of_row wr sb k _ _ _ hh]
        have hlen : k < (List.replicate k (r) ++ List.replicate (n - k) (0 : Int)).length := by simp; omega
        exact ⟨_, by rw [List.getElem?_toArray, List.getElem?_map, List.getElem?_eq_getElem hlen]; rfl⟩
      obtain ⟨u, q0⟩ := q0
      clear hx hh
      go_wp2_with fail
      go_roundw
      case rel =>
        refine ⟨k + 1, by go_num, hlt, HX.out.set (p := ⟨sb, k, none⟩) HSB.out _, ?_⟩
        have h9 := heap_set (o := k) (u := .int .i32 (r)) HH.out
        rw [h9, ← rep_set hlt, List.map_set]
        simp
      case measure => simp [intOf]; omega
    have hd : decide ((k : Int) < (n : Int)) = false := by simp; omega
    obtain rfl : k = n := by omega
    have hh2 : wr.heap[sb]? = some (.cells ((List.replicate k (r)).map (Value.int .i32)).toArray 21 (0, 0)) := by rw [hh, Nat.sub_self]; simp
    have hsl : SlC wr (.slice (some ⟨sb, 0, none⟩) k k) (List.replicate k (r)) := by
      refine ⟨_, k, by rw [List.length_replicate], by rw [List.length_replicate]; exact Nat.le_refl _, by omega, fun i y hy => ⟨sb, 0, rfl, ?_⟩, by intro h; cases h⟩
      rw [Nat.mul_one, Nat.zero_add]
      show wr.cell? _ = _
      rw [cell_of_row wr sb i _ _ _ hh2, List.getElem?_toArray, List.getElem?_map, hy]
      rfl
    have HSL := Lib.hid hsl
    clear hx hh hh2 hsl HH hlt hk
    go_upto_region 11 with fail
    have HTW := Lib.hid (slf_two (w := wr) rfl rfl)
    have HSW := Lib.hid (SlC.ext HSL.out ((Ext.refl wr).alloc (.cells #[.int .i64 1, .int .i64 0, .int .i64 0, .slice none 0 0, .slice none 0 0, .int .i64 1, .int .i64 0, .int .i64 0, .slice none 0 0, .slice none 0 0] 82)))
    have HXW := Lib.hid (HX.out.alloc (.cells #[.int .i64 1, .int .i64 0, .int .i64 0, .slice none 0 0, .slice none 0 0, .int .i64 1, .int .i64 0, .int .i64 0, .slice none 0 0, .slice none 0 0] 82))
    generalize wr.alloc _ = w5 at HTW HSW HXW ⊢
    generalize wr.heap.size = tb at HTW ⊢
    go_wp2_with fail
    refine (trun_any (List.replicate k (r)) [46] [TR.gF, TR.gF] _ _ _ true false _ ?h1 ?h2 ?h3).mono ?_
    case h1 => exact SlC.ext HSW.out ((Ext.refl _).alloc _)
    case h2 => exact SlB.slc (c_lit (B := 0) _ [46] _ _ (by simp) rfl (Nat.zero_le _) (by decide))
    case h3 => exact SlF.ext HTW.out ((Ext.refl _).alloc _)
    rintro e w6 ⟨hE6, v6, text, code, bat, rfl, ho6, hq6⟩
    obtain ⟨hr1, hr2⟩ := TR.run_dot (fun x hx => by rw [List.eq_of_mem_replicate hx]; exact HQ.out.2) (by rw [List.all_eq_true]; intro x hx; rw [List.eq_of_mem_replicate hx]; exact HQ.out.1) (by rw [List.length_replicate]; omega) hq6
    rw [List.length_replicate] at hr1 hr2
    have hx6 := ((Ext.refl w5).alloc (.cells #[.int .i32 46] 21)).trans hE6
    have hy6 := hx6.alloc (.cells #[.int .i64 code, .int .i64 bat] 36)
    have f6 : (w6.alloc (.cells #[.int .i64 code, .int .i64 bat] 36)).cell? ⟨w6.heap.size, 0, none⟩ = some (.int .i64 code) := by rw [World.cell?_alloc_new]; rfl
    have g6 : (w6.alloc (.cells #[.int .i64 code, .int .i64 bat] 36)).cell? ⟨w6.heap.size, 1, none⟩ = some (.int .i64 bat) := by rw [World.cell?_alloc_new]; rfl
    have HT6 := Lib.hid (SlF.ext HTW.out hy6)
    have HX6 := Lib.hid (HXW.out.trans hy6)
    obtain ⟨A6, c6, rfl, -⟩ := ho6.form
    clear hE6 ho6 hq6 hx6 hy6 HTW HSW HXW
    go_upto_region 12 with fail
    generalize w6.alloc _ = w7 at f6 g6 HT6 HX6 ⊢
    generalize w6.heap.size = fb at f6 g6 ⊢
    have s1 : IntKind.i64.wrap (2 * (k : Int)) = 2 * (k : Int) := IntWalk.i64_in _ (by omega)
    by_cases hbig : 1000 < 2 * k
    · have d1 : decide ((1000 : Int) < 2 * (k : Int)) = true := decide_eq_true (by omega)
      obtain ⟨rfl, rfl, rfl⟩ := hr2 hbig
      clear hr1 hr2 hbig
      go_wp2_with (go_at_call 47; go_loud (refine (HK.out _).mono ?_; rintro e w8 ⟨rfl, hE8⟩))
      go_ret
      exact ⟨rfl, HX6.out.trans hE8⟩
    · have d1 : decide ((1000 : Int) < 2 * (k : Int)) = false := decide_eq_false (by omega)
      obtain ⟨rfl, rfl, hlen⟩ := hr1 (by omega)
      have d2 : ((text.length : Int) == 2 * (k : Int)) = true := by rw [hlen]; simp
      have HMY := Lib.hid (show FM.may [TR.gF, TR.gF] = true by decide)
      clear hr1 hr2 hbig hlen
      go_wp2_with (first
        | (go_at_call 52; go_loud (refine (may2_any _ _ _ HT6.out).mono ?_; rw [HMY.out]; rintro e w8 ⟨rfl, hE8⟩; have HX8 := Lib.hid (HX6.out.trans hE8); clear hE8))
        | (go_at_call 47; go_loud (refine (HK.out _).mono ?_; rintro e w9 ⟨rfl, hE9⟩)))
      go_ret
      exact ⟨rfl, HX8.out.trans hE9⟩
end Go.Proofs.Ytfblkahjefdmaaa
