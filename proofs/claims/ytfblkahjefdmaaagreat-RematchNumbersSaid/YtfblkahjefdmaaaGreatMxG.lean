/- Walks: slices.Repeat of one number, and what it stands on. -/
import Derived.Test.YtfblkahjefdmaaaGreatMa
import Derived.Laws.Bits64b
import Derived.Laws.CopyOwn
import Derived.Deep.OwnRows
import Derived.WalkKit
namespace Go.Proofs.YtfblkahjefdmaaaGreat
open Go.RowKit

theorem and_mask {y : Nat} (hy : y ≤ 1000) : bits .and .u64 (y : Int) 4294967295 = (y : Int) := by
  have h := bits_and_u64_nat y 4294967295 (by omega) (by omega)
  have e : y &&& 4294967295 = y % 4294967296 := Nat.and_two_pow_sub_one_eq_mod y 32
  rw [e, Nat.mod_eq_of_lt (by omega)] at h
  exact h
set_option maxHeartbeats 1000000 in
theorem mul64_one (y : Nat) (w : World) (hy : y ≤ 1000) : Calls Tryz.prog 66 #[.int .u64 1, .int .u64 (y : Int)] w (fun e w' => e = .returned (.tuple #[.int .u64 0, .int .u64 (y : Int)]) ∧ w' = w) := by
  have a1 : bits .and .u64 1 4294967295 = 1 := by decide
  have a0 : bits .and .u64 0 4294967295 = 0 := by decide
  have a2 := and_mask hy
  have d1 : (y : Int) / 4294967296 = 0 := by omega
  have w1 : IntKind.u64.wrap (y : Int) = (y : Int) := by rw [IntKind.wrap_u64]; omega
  go_enter Tryz.func66, Tryz.ntmps66
  go_wp2_with fail
  refine bodyPost_ret (v := .tuple #[.int .u64 0, .int .u64 (y : Int)]) (by simp [results, Tryz.results66, go_sem]) rfl ?_
  exact ⟨rfl, rfl⟩
set_option maxHeartbeats 1000000 in
theorem mul_one_any (y : Nat) (w : World) (hy : y ≤ 1000) : Calls Tryz.prog 45 #[.int .u64 1, .int .u64 (y : Int)] w (fun e w' => e = .returned (.tuple #[.int .u64 0, .int .u64 (y : Int)]) ∧ w' = w) := by
  go_enter Tryz.func45, Tryz.ntmps45
  go_wp2_with (go_at_call 66; go_loud (refine (mul64_one y _ hy).mono ?_; rintro e w2 ⟨rfl, rfl⟩))
  refine bodyPost_ret (v := .tuple #[.int .u64 0, .int .u64 (y : Int)]) (by simp [results, Tryz.results45, go_sem]) rfl ?_
  exact ⟨rfl, rfl⟩
theorem made_rep (z : Value) (n : Nat) : madeCells #[z] n = (List.replicate n z).toArray := by
  apply Array.ext_getElem?
  intro j
  by_cases hj : j < n
  · simp [madeCells, hj, Nat.mod_one]
  · simp [madeCells, hj]
/-- A row half filled. -/
abbrev halfL (k y : Nat) : List Value := List.replicate k (.int .i64 (-1)) ++ List.replicate (y - k) (.int .i64 0)
theorem half_splice {k y m : Nat} : splice (halfL k y) k (List.replicate m (.int .i64 (-1))) = halfL (k + m) y := by
  unfold splice halfL
  rw [List.take_left' (by simp), List.length_replicate, ← List.drop_drop, List.drop_left' (by simp), List.drop_replicate, ← List.append_assoc, List.replicate_append_replicate]
  rw [show y - k - m = y - (k + m) by omega]
theorem info_i : (Tryz.prog.info? 3).map (fun i => (i.zero, i.size, i.bytes)) = some (some (.int .i64 0), 1, 8) := by kernel_rfl
theorem size_i : (Tryz.prog.info? 3).map (·.size) = some 1 := by kernel_rfl
set_option maxRecDepth 100000 in
set_option maxHeartbeats 2000000 in
theorem repi_any (y b o c : Nat) (w : World) (h0 : 1 ≤ y) (hy : y ≤ 1000) (hv : w.cell? ⟨b, o, none⟩ = some (.int .i64 (-1))) :
    Calls Tryz.prog 25 #[.slice (some ⟨b, o, none⟩) 1 c, .int .i64 (y : Int)] w (fun e w' => Ext w w' ∧ e = .returned (.slice (some ⟨w.heap.size, 0, none⟩) y y) ∧ w'.heap[w.heap.size]? = some (.cells (List.replicate y (Value.int .i64 (-1))).toArray 3 (0, 0))) := by
  obtain ⟨i0, hi, hz0, hz1, hz2⟩ := info_parts info_i
  have hb := World.block_lt_of_cell? w _ hv
  have hb : b < w.heap.size := hb
  have w1 : IntKind.u64.wrap (y : Int) = (y : Int) := by rw [IntKind.wrap_u64]; omega
  have w2 : IntKind.i64.wrap (y : Int) = (y : Int) := IntWalk.i64_in _ (by omega)
  have d1 : decide ((y : Int) < 0) = false := by simp
  have d2 : decide ((9223372036854775807 : Int) < (y : Int)) = false := by simp; omega
  have HM := Lib.hid (fun w => mul_one_any y w hy)
  go_enter Tryz.func25, Tryz.ntmps25
  go_wp2_with (first
    | (go_at_call 45; go_loud (refine (HM.out _).mono ?_; rintro e w3 ⟨rfl, rfl⟩))
    | (refine wpList_make_row _ rfl _ _ 39 rfl 3 i0 (.int .i64 0) Tryz.underlying39 hi hz0 hz1 rfl .i64 .i64 y rfl rfl (by rw [hz2]; omega) (by omega) ?_)
    | (go_loud (have hg0 : (w3.alloc (.cells (madeCells #[.int .i64 0] y) 3)).heap[w3.heap.size]? = some (.cells (halfL 0 y).toArray 3 (0, 0)) := by
                  rw [heap_alloc_new, made_rep]; simp [halfL]
                have hv0 := ((Ext.refl w3).alloc (.cells (madeCells #[.int .i64 0] y) 3)).cell hv
                refine wpList_copy_splice rfl _ _ 39 39 rfl 3 Tryz.underlying39 size_i (some ⟨w3.heap.size, 0, none⟩) (some ⟨b, o, none⟩) y y 1 c rfl rfl w3.heap.size 0 (halfL 0 y) 3 hg0 [.int .i64 (-1)] (by show 1 = min 1 y; omega) (fun _ => ⟨rfl, _, rfl, fun j v hj => by
                  match j, hj with
                  | 0, hj => simp at hj; subst hj; simpa [Addr.add] using hv0⟩) (by simp [halfL]; omega) one_int w3.heap.size _ (Below.refl _ _) (Nat.le_refl _) ?_
                intro w4 hg4 hb4
                have HX4 := Lib.hid (show Ext w3 w4 from Below.trans ((Ext.refl w3).alloc (.cells (madeCells #[.int .i64 0] y) 3)) hb4)
                have HG4 := Lib.hid (show w4.heap[w3.heap.size]? = some (.cells (halfL 1 y).toArray 3 (0, 0)) from by
                  have h1 : w4.heap[w3.heap.size]? = some (.cells (splice (halfL 0 y) 0 [.int .i64 (-1)]).toArray 3 (0, 0)) := hg4
                  rw [h1, show splice (halfL 0 y) 0 [.int .i64 (-1)] = halfL 1 y from half_splice (k := 0) (m := 1)])
                clear hg4 hb4 hg0 hv0)))
  generalize hg : w3.heap.size = g at HG4 ⊢
  have HGE := Lib.hid hg
  go_loopw [8] (fun x wr => ∃ k : Nat, 1 ≤ k ∧ k ≤ y ∧ x = .int .i64 (k : Int) ∧ Ext w3 wr ∧ wr.heap[g]? = some (.cells (halfL k y).toArray 3 (0, 0))) (fun x _ => y - (intOf x).toNat)
  case atStart => exact ⟨1, Nat.le_refl _, h0, rfl, HX4.out, HG4.out⟩
  case round =>
    obtain ⟨k, hk1, hk2, rfl, hx, hh⟩ := hrel
    have HX := Lib.hid hx
    have HH := Lib.hid hh
    by_cases hlt : k < y
    rotate_left
    · have hky : k = y := by omega
      have hh' : wr.heap[g]? = some (.cells (List.replicate y (Value.int .i64 (-1))).toArray 3 (0, 0)) := by
        rw [hh, hky]
        simp [halfL]
      have HF := Lib.hid hh'
      have hd : decide ((k : Int) < (y : Int)) = false := by simp; omega
      clear hx hh hh' hky
      go_wp2_with fail
      go_ret
      exact ⟨HX.out, (by rw [HGE.out]; rfl), (by rw [HGE.out]; exact HF.out)⟩
    have hd : decide ((k : Int) < (y : Int)) = true := by simp; omega
    obtain ⟨m, hm⟩ : ∃ m, min k (y - k) = m := ⟨_, rfl⟩
    have hm1 : 1 ≤ m ∧ k + m ≤ y := by omega
    have s1 : IntKind.i64.wrap ((k : Int) + (m : Int)) = ((k + m : Nat) : Int) := by rw [IntWalk.i64_in _ (by omega)]; omega
    have t1 : (k : Int) ≤ (y : Int) := by omega
    have t2 : ((k : Int)).toNat = k := by omega
    have t3 : y ≠ k := by omega
    have t4 : k ≤ y := hk2
    clear hx hh
    go_upto_region 9 with fail
    have hbx : Below g wr.drew wr.drew := Below.refl _ _
    have hsrc : ∀ (j : Nat) (v : Value), (List.replicate m (Value.int .i64 (-1)))[j]? = some v → wr.drew.cell? ((⟨g, 0, none⟩ : Addr).add j) = some v := fun j v hj => by
      rw [List.getElem?_replicate] at hj
      split at hj
      · rename_i hjm
        injection hj with hj
        subst hj
        have ha : (⟨g, 0, none⟩ : Addr).add j = ⟨g, j, none⟩ := by unfold Addr.add; split <;> simp_all
        rw [ha]
        refine (cell_of_row wr g j _ _ _ HH.out).trans ?_
        simp only [halfL, List.getElem?_toArray]
        rw [List.getElem?_append_left (by simp; omega), List.getElem?_replicate, if_pos (by omega)]
      · cases hj
    have hlen : (List.replicate m (Value.int .i64 (-1))).length = Nat.min k (y - k) := by rw [List.length_replicate]; exact hm.symm
    have hfit : k + (List.replicate m (Value.int .i64 (-1))).length ≤ (halfL k y).length := by simp [halfL]; omega
    have hone : ∀ v ∈ List.replicate m (Value.int .i64 (-1)), v.oneCell' = true := fun v hv => by rw [List.eq_of_mem_replicate hv]; rfl
    obtain ⟨w5, hrun, hg5, hb5⟩ : ∃ w5, (Builtin.copy_ #[39, 39] 3 #[.slice (some ⟨g, k, none⟩) (y - k) (y - k), .slice (some ⟨g, 0, none⟩) k y]).run Tryz.prog wr.drew = .ok (.int .i64 (m : Int)) w5 ∧ w5.heap[g]? = some (.cells (halfL (k + m) y).toArray 3 (0, 0)) ∧ Below g wr.drew w5 := by
      have h1 := run_copy_row (P := Tryz.prog) wr.drew 39 39 3 3 g k (y - k) (y - k) ⟨g, 0, none⟩ k y (halfL k y).toArray 3 (List.replicate m (.int .i64 (-1))) Tryz.underlying39 size_i HH.out hlen hsrc (by simpa using hfit) hone
      refine ⟨_, by rw [h1, List.length_replicate]; rfl, ?_, below_setRow hbx (Nat.le_refl _) _⟩
      rw [setRow_heap wr.drew g _ _ 3 (0, 0) HH.out, ← half_splice]
      simp [splice]
      rw [← List.append_assoc, List.replicate_append_replicate]
    have HG5 := Lib.hid hg5
    have HB5 := Lib.hid hb5
    clear hlen hfit hone hsrc hg5 hb5
    go_region
    all_goals
      go_wp2_with fail
      go_roundw
      case rel => exact ⟨k + m, by omega, by omega, by go_num, Below.trans (HX.out.drew) (by rw [HGE.out]; exact HB5.out), HG5.out⟩
      case measure => simp [intOf]; omega
end Go.Proofs.YtfblkahjefdmaaaGreat
