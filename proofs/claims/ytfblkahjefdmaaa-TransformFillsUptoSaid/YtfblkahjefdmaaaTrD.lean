/- Walks: slices.Grow of nothing, slices.Concat. -/
import Derived.Test.YtfblkahjefdmaaaTrC
import Derived.Lib.AppendZeros
import Derived.WalkKit
namespace Go.Proofs.Ytfblkahjefdmaaa
open Go.RowKit

theorem zeros_size (z : Value) (hz : z.cells = #[z]) (n : Nat) : (Builtin.zeroCells z.cells n).size = n := by
  rw [hz]; simp [Builtin.zeroCells]
set_option maxRecDepth 100000 in
theorem sgrow_any (n : Nat) (w : World) (hn : n ≤ 1000000) :
    Calls Try.prog 114 #[.slice none 0 0, .int .i64 (n : Int)] w (RetP (fun w' v => OwnB 21 1 Cc w.heap.size w' v []) w) := by
  obtain ⟨i0, hi, hz0, hz1, hz2⟩ := info_parts info_c
  have d1 : decide ((n : Int) < 0) = false := by simp
  rcases Nat.eq_zero_or_pos n with rfl | hpos
  · go_enter Try.func114, Try.ntmps114
    go_wp2_with fail
    go_ret
    exact ⟨_, rfl, OwnB.nil_, Ext.refl _⟩
  · have d2 : decide ((0 : Int) < (n : Int)) = true := by simp; omega
    have hrun := Lib.run_append_nil_zeros (P := Try.prog) w 23 3 23 21 i0 (.int .i32 0) .i64 .i64 Try.underlying23 Try.underlying3 hi hz0 n hpos (by rw [hz1]; decide) (by omega) (by rw [hz2]; omega)
    have hge := grownCap_ge w n 0 21
    have hlm := grownCap_le_maxLen w n 0 21 (by unfold maxLen; omega)
    have hsz : (Builtin.zeroCells (Value.int .i32 0).cells n ++ Builtin.zeroCells (Value.int .i32 0).cells (grownCap w n 0 21 - n)).size = grownCap w n 0 21 := by
      rw [Array.size_append, zeros_size _ rfl, zeros_size _ rfl]; omega
    have hE : Ext w (w.drew.alloc (.cells (Builtin.zeroCells (Value.int .i32 0).cells n ++ Builtin.zeroCells (Value.int .i32 0).cells (grownCap w n 0 21 - n)) 21)) := ((Ext.refl w).drew).alloc _
    have hh := heap_alloc_new w.drew (.cells (Builtin.zeroCells (Value.int .i32 0).cells n ++ Builtin.zeroCells (Value.int .i32 0).cells (grownCap w n 0 21 - n)) 21)
    generalize w.drew.alloc _ = w1 at hrun hE hh
    generalize Builtin.zeroCells (Value.int .i32 0).cells n ++ Builtin.zeroCells (Value.int .i32 0).cells (grownCap w n 0 21 - n) = cur at hsz hh
    generalize grownCap w n 0 21 = cap at hrun hge hlm hsz
    have hh : w1.heap[w.heap.size]? = some (.cells cur 21 (0, 0)) := hh
    have HO := Lib.hid (show OwnB 21 1 Cc w.heap.size w1 (.slice (some ⟨w.heap.size, 0, none⟩) 0 cap) [] from ⟨[], ⟨by simp, .inr ⟨w.heap.size, cap, cur, rfl, Nat.le_refl _, hh, Nat.zero_le _, hlm, by rw [hsz]; omega, by simp⟩⟩, by intro k x hx; simp at hx⟩)
    have HE := Lib.hid hE
    have HRUN := Lib.hid hrun
    have hcp : 0 ≤ cap := Nat.zero_le _
    clear hE hh hsz hrun hlm
    go_enter Try.func114, Try.ntmps114
    go_wp2_with (at_builtin; go_loud (refine Lib.wpList_append_run w rfl _ _ _ _ rfl _ _ rfl rfl _ _ HRUN.out ?_))
    go_ret
    exact ⟨_, rfl, HO.out, HE.out⟩
theorem flat_take {gs : List (List Int)} {k : Nat} (h : k < gs.length) : (gs.take (k + 1)).flatten = (gs.take k).flatten ++ gs[k] := by
  rw [List.take_succ_eq_append_getElem h, List.flatten_append]
  simp
theorem flat_le (gs : List (List Int)) (k : Nat) : (gs.take k).flatten.length ≤ gs.flatten.length := by
  conv => rhs; rw [← List.take_append_drop k gs, List.flatten_append, List.length_append]
  omega
set_option maxRecDepth 100000 in
set_option maxHeartbeats 2000000 in
theorem sconcat_any (gs : List (List Int)) (v : Value) (w : World) (hg : SlG w v gs) (hl : gs.flatten.length ≤ 1000000) (hgl : gs.length ≤ 1000) :
    Calls Try.prog 85 #[v] w (RetP (fun w' v => OwnB 21 1 Cc w.heap.size w' v gs.flatten) w) := by
  have HG := Lib.hid hg
  obtain ⟨A, c, rfl, hlc, hcm, -⟩ := id hg
  clear hg
  have HGR := Lib.hid (fun n (hn : n ≤ 1000000) w' => sgrow_any n w' hn)
  have HFL := Lib.hid (flat_le gs)
  go_enter Try.func85, Try.ntmps85
  go_wp2_with fail
  go_loopw [3, 11] (fun x3 x11 wr => ∃ k n : Nat, k ≤ gs.length ∧ x11 = .int .i64 (k : Int) ∧ x3 = .int .i64 (((gs.take k).flatten.length : Nat) : Int) ∧ wr = w.drewN n) (fun _ x11 _ => gs.length - (intOf x11).toNat)
  case atStart => exact ⟨0, 0, Nat.zero_le _, rfl, rfl, rfl⟩
  case round =>
    obtain ⟨k, n, hk, rfl, rfl, rfl⟩ := hrel
    have hfl := HFL.out k
    by_cases hlt : k < gs.length
    · have hd : decide ((k : Int) < (gs.length : Int)) = true := by simp; omega
      have hki : (k : Int) < (gs.length : Int) := by omega
      obtain ⟨b, o, rfl, u, hu, hsu⟩ := SlR.at_ HG.out (List.getElem?_eq_getElem hlt)
      rw [Nat.mul_one] at hu
      have hft := congrArg List.length (flat_take hlt)
      rw [List.length_append] at hft
      have hfl2 := HFL.out (k + 1)
      obtain ⟨Au, cu, rfl, -⟩ := id hsu
      generalize gs[k] = g at hu hft
      have hn1 : (gs.take (k + 1)).flatten.length ≤ (gs.take k).flatten.length + g.length := by omega
      have hn2 : (gs.take k).flatten.length + g.length ≤ (gs.take (k + 1)).flatten.length := by omega
      clear hft hsu
      generalize (gs.take k).flatten.length = a at hn1 hn2 hfl ⊢
      have HQ := Lib.hid (And.intro hn1 hn2)
      have hag : a + g.length ≤ 1000000 := by omega
      have d2 : decide ((a : Int) + (g.length : Int) < 0) = false := by simp; omega
      clear hn1 hn2 hfl2
      go_wp2_with fail
      go_roundw
      case rel => exact ⟨k + 1, n, by omega, by go_num, by have := HQ.out; congr 1; omega, rfl⟩
      case measure => simp [intOf]; omega
    · have hd : decide ((k : Int) < (gs.length : Int)) = false := by simp; omega
      rw [List.take_of_length_le (by omega)]
      have hl2 := hl
      generalize gs.flatten.length = N at hl2 ⊢
      have HE0 := Lib.hid ((Ext.refl w).drewN n)
      clear hfl
      generalize w.drewN n = w1 at HE0 ⊢
      go_wp2_with fail
      refine (HGR.out N hl2 _).mono ?_
      rintro e w2 ⟨v2, rfl, ho2, hx2⟩
      have HO2 := Lib.hid ho2
      have HX2 := Lib.hid (HE0.out.trans hx2)
      obtain ⟨A2, c2, rfl, -⟩ := ho2.form
      have HB := Lib.hid (show w.heap.size ≤ w1.heap.size from HE0.out.size)
      clear ho2 hx2
      go_wp2_with fail
      go_loopw [6, 27] (fun x6 x27 wr => ∃ k : Nat, k ≤ gs.length ∧ x27 = .int .i64 (k : Int) ∧ Ext w wr ∧ OwnB 21 1 Cc w.heap.size wr x6 (gs.take k).flatten) (fun _ x27 _ => gs.length - (intOf x27).toNat)
      case atStart => exact ⟨0, Nat.zero_le _, rfl, HX2.out, OwnB.weak HO2.out HB.out⟩
      case round =>
        obtain ⟨k, hk, rfl, hx, hown⟩ := hrel
        have HX := Lib.hid hx
        by_cases hlt : k < gs.length
        · have hd : decide ((k : Int) < (gs.length : Int)) = true := by simp; omega
          have hki : (k : Int) < (gs.length : Int) := by omega
          obtain ⟨b, o, rfl, u, hu, hsu⟩ := SlR.at_ (SlG.ext HG.out hx) (List.getElem?_eq_getElem hlt)
          rw [Nat.mul_one] at hu
          have HSN := Lib.hid (flat_take hlt)
          have hfl2 := HFL.out (k + 1)
          rw [flat_take hlt, List.length_append] at hfl2
          have HSU := Lib.hid hsu
          obtain ⟨Au, cu, rfl, -⟩ := id hsu
          have HO := Lib.hid hown
          obtain ⟨Ao, co, rfl, -⟩ := hown.form
          clear hx hown hsu
          generalize gs[k] = g at hu HSN hfl2 HSU
          generalize (gs.take k).flatten = out at HSN HO hfl2 ⊢
          go_wp2_with (at_builtin; go_loud (refine app_srcC rfl _ _ rfl w.heap.size _ _ out g HO.out rfl rfl HSU.out ?hn ?hB ?_; (case hn => omega); (case hB => exact HX.out.size); intro v6 w6 h1 h2; have HX6 := Lib.hid (HX.out.grown h2 (fun j hj => (HO.out.lt j hj).1)); have HO6 := Lib.hid h1; clear h1 h2))
          go_roundw
          case rel => exact ⟨k + 1, by omega, by go_num, HX6.out, by rw [HSN.out]; exact HO6.out⟩
          case measure => simp [intOf]; omega
        · have hd : decide ((k : Int) < (gs.length : Int)) = false := by simp; omega
          rw [List.take_of_length_le (by omega)] at hown
          have HO := Lib.hid hown
          obtain ⟨Ao, co, rfl, -⟩ := hown.form
          clear hx hown
          go_wp2_with fail
          go_ret
          exact ⟨_, rfl, HO.out, HX.out⟩
end Go.Proofs.Ytfblkahjefdmaaa
