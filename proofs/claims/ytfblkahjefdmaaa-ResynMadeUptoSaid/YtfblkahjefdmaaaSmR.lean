/- Walk: are two texts one. -/
import Derived.Test.YtfblkahjefdmaaaKn8
namespace Go.Proofs.Ytfblkahjefdmaaa
open Go.RowKit

set_option maxHeartbeats 1000000 in
theorem same_any (va vb : Value) (xs ys : List Int) (w : World) (hx : SlC w va xs) (hy : SlC w vb ys) :
    Calls Try.prog 38 #[va, vb] w (Ret (.bool (decide (xs = ys))) w) := by
  have HX := Lib.hid hx
  have HY := Lib.hid hy
  obtain ⟨A, ca, rfl, hlx, hcx, _⟩ := hx
  obtain ⟨B, cb, rfl, hly, hcy, _⟩ := hy
  by_cases hl : xs.length = ys.length
  · have hb1 : ((xs.length : Int) != ys.length) = false := by simp [hl]
    have HL := Lib.hid hl
    clear hl
    go_enter Try.func38, Try.ntmps38
    go_wp2_with fail
    go_loopw [5] (fun i wr => ∃ k : Nat, k ≤ xs.length ∧ i = .int .i64 k ∧ (∀ j, j < k → xs[j]? = ys[j]?) ∧ Ext w wr) (fun i _ => xs.length - (intOf i).toNat)
    case atStart => exact ⟨0, Nat.zero_le _, rfl, by intro j hj; omega, Ext.refl w⟩
    case round =>
      obtain ⟨k, hk, rfl, hpre, hE⟩ := hrel
      have HP := Lib.hid hpre
      clear hpre
      by_cases hlt : k < xs.length
      · have hlt2 : k < ys.length := by have := HL.out; omega
        obtain ⟨b, o, rfl, hc⟩ := (HX.out.ext hE).at_ hlt
        obtain ⟨b', o', rfl, hc'⟩ := (HY.out.ext hE).at_ hlt2
        by_cases he : xs[k] = ys[k]
        · have hb2 : (xs[k] != ys[k]) = false := by simp [he]
          have HE := Lib.hid he
          clear he
          go_wp2_with fail
          go_quiet (fail)
          go_wp2_with fail
          go_roundw
          case rel => exact ⟨k + 1, by omega, by go_num, by intro j hj; rcases Nat.lt_succ_iff_lt_or_eq.1 hj with h | rfl; exact HP.out j h; rw [List.getElem?_eq_getElem hlt, List.getElem?_eq_getElem hlt2, HE.out], hE.drewN _⟩
          case measure => simp [intOf]; omega
        · have hb2 : (xs[k] != ys[k]) = true := by simp [he]
          have hf : decide (xs = ys) = false := decide_eq_false (fun h => he (by subst h; rfl))
          have HF := Lib.hid hf
          clear hf
          go_wp2_with fail
          go_quiet (fail)
          go_wp2_with fail
          go_ret
          exact ⟨by rw [HF.out]; rfl, hE.drewN _⟩
      · have hf : decide (xs = ys) = true := decide_eq_true (List.ext_getElem? fun j => by
          rcases Nat.lt_or_ge j k with h | h
          · exact HP.out j h
          · rw [List.getElem?_eq_none (by omega), List.getElem?_eq_none (by have := HL.out; omega)])
        have HF := Lib.hid hf
        clear hf
        go_wp2_with fail
        go_ret
        exact ⟨by rw [HF.out]; rfl, hE⟩
  · have hb1 : ((xs.length : Int) != ys.length) = true := by simp; omega
    have hf : decide (xs = ys) = false := decide_eq_false (fun h => hl (by rw [h]))
    have HF := Lib.hid hf
    clear hf hl
    go_enter Try.func38, Try.ntmps38
    go_wp2_with fail
    go_ret
    exact ⟨by rw [HF.out]; rfl, Ext.refl _⟩
end Go.Proofs.Ytfblkahjefdmaaa
