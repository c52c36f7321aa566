/- Walk: Groups of the document's own reader. -/
import Derived.Test.YtfblkahjefdmaaaRfM
namespace Go.Proofs.Ytfblkahjefdmaaa
open Go.RowKit

set_option maxRecDepth 100000 in
set_option maxHeartbeats 1000000 in
theorem qgroups_any (l : List RX.ReN) (B : Nat) (v : Value) (w : World) (hv : SlRe B B w v l) (_hl : l.length ≤ 1000000) : Calls Try.prog 57 #[v] w (Ret (.int .i64 (RX.groups l : Nat)) w) := by
  obtain ⟨A, c, rfl, hlc, hcm⟩ := hv.form
  have HV := Lib.hid hv
  clear hv
  go_enter Try.func57, Try.ntmps57
  go_wp2_with fail
  go_loopw [3, 4] (fun n i wr => ∃ k : Nat, k ≤ l.length ∧ i = .int .i64 k ∧ n = .int .i64 (RX.groups (l.take k) : Nat) ∧ RX.groups (l.take k) ≤ k ∧ Ext w wr) (fun _ i _ => l.length - (intOf i).toNat)
  case atStart => exact ⟨0, Nat.zero_le _, rfl, rfl, Nat.le_refl _, Ext.refl w⟩
  case round =>
    obtain ⟨k, hk, rfl, rfl, hg, hE⟩ := hrel
    have HE := Lib.hid hE
    by_cases hlt : k < l.length
    · obtain ⟨g, o, cs, rfl, hcr, hcell⟩ := (HV.out.keep (keeps_re B) (KeepT.of_ext hE) (KeepT.of_ext hE)).at_ hlt
      have hdk : decide ((k : Int) < (l.length : Int)) = true := by simp; omega
      have hki : (k : Int) < (l.length : Int) := by omega
      have HT := Lib.hid (groups_take l hlt)
      generalize l[k] = x at hcr HT
      obtain ⟨n2, hn2⟩ : ∃ n2, RX.groups (l.take (k + 1)) = n2 := ⟨_, rfl⟩
      rw [hn2] at HT
      have HN := Lib.hid hn2
      clear hn2
      generalize RX.groups (l.take k) = n1 at HT hg ⊢
      obtain ⟨Ax, cx, rfl⟩ := hcr.cells
      have c0 := hcell 0 _ rfl
      have c2 := hcell 2 _ rfl
      rw [Nat.add_zero] at c0
      clear hcell hcr hE
      rcases h5 : (x.kind == 5) with _ | _
      · have HX := Lib.hid (show n2 = n1 by rw [HT.out, if_neg (fun h => beq_eq_false_iff_ne.1 h5 h.1)]; rfl)
        go_wp2_with fail
        go_roundw
        case rel => exact ⟨k + 1, by omega, by go_num, by rw [HN.out, HX.out], by rw [HN.out, HX.out]; omega, HE.out⟩
        case measure => simp [intOf]; omega
      · rcases h0 : decide (0 < x.lo) with _ | _
        · have HX := Lib.hid (show n2 = n1 by rw [HT.out, if_neg (fun h => of_decide_eq_false h0 h.2)]; rfl)
          go_wp2_with fail
          go_roundw
          case rel => exact ⟨k + 1, by omega, by go_num, by rw [HN.out, HX.out], by rw [HN.out, HX.out]; omega, HE.out⟩
          case measure => simp [intOf]; omega
        · have HX := Lib.hid (show n2 = n1 + 1 by rw [HT.out, if_pos ⟨beq_iff_eq.1 h5, of_decide_eq_true h0⟩])
          go_wp2_with fail
          go_roundw
          case rel => exact ⟨k + 1, by omega, by go_num, by rw [HN.out, HX.out]; go_num, by rw [HN.out, HX.out]; omega, HE.out⟩
          case measure => simp [intOf]; omega
    · have hkl : k = l.length := by omega
      have hdk : decide ((k : Int) < (l.length : Int)) = false := by simp; omega
      have HK := Lib.hid hkl
      clear hkl hE
      go_wp2_with fail
      go_ret
      exact ⟨ret_congr (by rw [HK.out, List.take_length]; rfl), HE.out⟩
end Go.Proofs.Ytfblkahjefdmaaa
