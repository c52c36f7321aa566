/- Walks: are two texts one; may a text be; a case's name. -/
import Derived.Test.YtfblkahjefdmaaaDoorFdB
namespace Go.Proofs.YtfblkahjefdmaaaDoor
open Go.RowKit

set_option maxHeartbeats 1000000 in
theorem equal_any (va vb : Value) (xs ys : List Int) (w : World) (hx : SlC w va xs) (hy : SlC w vb ys) :
    Calls Tryd.prog 66 #[va, vb] w (RetD (.bool (decide (xs = ys))) w) := by
  have HX := Lib.hid hx
  have HY := Lib.hid hy
  obtain ⟨A, ca, rfl, hlx, hcx, -⟩ := hx
  obtain ⟨B, cb, rfl, hly, hcy, -⟩ := hy
  by_cases hl : xs.length = ys.length
  · have hb1 : ((xs.length : Int) != ys.length) = false := by simp [hl]
    have HL := Lib.hid hl
    clear hl
    go_enter Tryd.func66, Tryd.ntmps66
    go_wp2_with fail
    go_loopw [13] (fun i wr => ∃ k n : Nat, k ≤ xs.length ∧ i = .int .i64 k ∧ (∀ j, j < k → xs[j]? = ys[j]?) ∧ wr = w.drewN n) (fun i _ => xs.length - (intOf i).toNat)
    case atStart => exact ⟨0, 0, Nat.zero_le _, rfl, by intro j hj; omega, rfl⟩
    case round =>
      obtain ⟨k, n, hk, rfl, hpre, rfl⟩ := hrel
      have HP := Lib.hid hpre
      clear hpre
      by_cases hlt : k < xs.length
      · have hlt2 : k < ys.length := by have := HL.out; omega
        obtain ⟨b, o, rfl, hc⟩ := HX.out.at_ hlt
        obtain ⟨b', o', rfl, hc'⟩ := HY.out.at_ hlt2
        by_cases he : xs[k] = ys[k]
        · have hb2 : (xs[k] != ys[k]) = false := by simp [he]
          have HE := Lib.hid he
          clear he
          go_wp2_with fail
          go_quiet (fail)
          go_wp2_with fail
          go_roundw
          case rel => exact ⟨k + 1, _, by omega, by go_num, by intro j hj; rcases Nat.lt_succ_iff_lt_or_eq.1 hj with h | rfl; exact HP.out j h; rw [List.getElem?_eq_getElem hlt, List.getElem?_eq_getElem hlt2, HE.out], rfl⟩
          case measure => simp [intOf]; omega
        · have hb2 : (xs[k] != ys[k]) = true := by simp [he]
          have hf : decide (xs = ys) = false := decide_eq_false (fun h => he (by subst h; rfl))
          have HF := Lib.hid hf
          clear hf
          go_wp2_with fail
          go_quiet (fail)
          go_wp2_with fail
          go_ret
          exact ⟨by rw [HF.out]; rfl, dd⟩
      · have hf : decide (xs = ys) = true := decide_eq_true (List.ext_getElem? fun j => by
          rcases Nat.lt_or_ge j k with h | h
          · exact HP.out j h
          · rw [List.getElem?_eq_none (by omega), List.getElem?_eq_none (by have := HL.out; omega)])
        have HF := Lib.hid hf
        clear hf
        go_wp2_with fail
        go_ret
        exact ⟨by rw [HF.out]; rfl, _, rfl⟩
  · have hb1 : ((xs.length : Int) != ys.length) = true := by simp; omega
    have hf : decide (xs = ys) = false := decide_eq_false (fun h => hl (by rw [h]))
    have HF := Lib.hid hf
    clear hf hl
    go_enter Tryd.func66, Tryd.ntmps66
    go_wp2_with fail
    go_ret
    exact ⟨by rw [HF.out]; rfl, 0, rfl⟩

set_option maxHeartbeats 400000 in
theorem is_any (r : Int) (w : World) : Calls Tryd.prog 52 #[.int .i32 r] w (RetD (.bool (RX.isSign r)) w) := by
  by_cases h1 : 0 ≤ r <;> by_cases h2 : r ≤ 1114111 <;> by_cases h3 : r < 55296 <;> by_cases h4 : 57343 < r
  all_goals first | (exfalso; omega) | skip
  all_goals
    go_enter Tryd.func52, Tryd.ntmps52
    go_wp2_with fail
    go_ret
    exact ⟨ret_congr (by simp [RX.isSign]; omega), 0, rfl⟩
set_option maxHeartbeats 400000 in
theorem isnt_any (c : Int) (w : World) : Calls Tryd.prog 51 #[.int .i32 c] w (RetD (.bool (!RX.isSign c)) w) := by
  go_enter Tryd.func51, Tryd.ntmps51
  go_wp2_with fail
  refine (is_any _ _).mono ?_
  rintro e w' ⟨rfl, n, rfl⟩
  go_wp2_with fail
  go_ret
  exact ⟨rfl, _, rfl⟩
def IdxD (s : List Int) (w : World) (e : Ending) (w' : World) : Prop := ∃ n : Int, ∃ m : Nat, e = .returned (.int .i64 n) ∧ decide (0 ≤ n) = !s.all RX.isSign ∧ w' = w.drewN m
set_option maxHeartbeats 1000000 in
theorem indexf_any (s : List Int) (v : Value) (w : World) (hv : SlC w v s) : Calls Tryd.prog 58 #[v, .func (.func 51) #[] #[]] w (IdxD s w) := by
  obtain ⟨A, c, rfl, hlc, hcm, -⟩ := id hv
  have HV := Lib.hid hv
  clear hv
  go_enter Tryd.func58, Tryd.ntmps58
  go_wp2_with fail
  go_loopw [8] (fun i wr => ∃ k n : Nat, k ≤ s.length ∧ i = .int .i64 k ∧ wr = w.drewN n ∧ ∀ x ∈ s.take k, RX.isSign x = true) (fun i _ => s.length - (intOf i).toNat)
  case atStart => exact ⟨0, 0, Nat.zero_le _, rfl, rfl, by simp⟩
  case round =>
    obtain ⟨k, n, hk, rfl, rfl, hall⟩ := hrel
    have HALL := Lib.hid hall
    clear hall
    by_cases hlt : k < s.length
    · obtain ⟨b, o, rfl, hc⟩ := HV.out.at_ hlt
      obtain ⟨x, hx⟩ : ∃ x, s[k] = x := ⟨_, rfl⟩
      rw [hx] at hc
      have HX := Lib.hid hx
      clear hx
      rcases hz : (!RX.isSign x) with _ | _
      · go_wp2_with (go_at_call 51; refine (isnt_any _ _).mono ?_; rintro e w' ⟨rfl, n2, rfl⟩)
        go_roundw
        case rel =>
          refine ⟨k + 1, _, by omega, by go_num, rfl, fun y hy => ?_⟩
          rw [List.take_succ_eq_append_getElem hlt] at hy
          rcases List.mem_append.1 hy with hy | hy
          · exact HALL.out y hy
          · simp at hy; subst hy; rw [HX.out]; simpa using hz
        case measure => simp [intOf]; omega
      · have HF := Lib.hid (show decide ((0 : Int) ≤ (k : Int)) = !s.all RX.isSign by
          rw [decide_eq_true (by omega)]
          symm
          rw [Bool.not_eq_true']
          rw [Bool.eq_false_iff]
          intro h
          have := List.all_eq_true.1 h s[k] (List.getElem_mem hlt)
          rw [HX.out] at this
          rw [this] at hz; cases hz)
        go_wp2_with (go_at_call 51; refine (isnt_any _ _).mono ?_; rintro e w' ⟨rfl, n2, rfl⟩)
        go_ret
        exact ⟨_, _, rfl, HF.out, rfl⟩
    · have HF := Lib.hid (show decide ((0 : Int) ≤ (-1 : Int)) = !s.all RX.isSign by
        rw [decide_eq_false (by decide)]
        symm
        rw [Bool.not_eq_false', List.all_eq_true]
        intro x hx
        exact HALL.out x (by rw [List.take_of_length_le (by omega)]; exact hx))
      go_wp2_with fail
      go_ret
      exact ⟨_, _, rfl, HF.out, rfl⟩
set_option maxHeartbeats 1000000 in
theorem containsf_any (s : List Int) (v : Value) (w : World) (hv : SlC w v s) : Calls Tryd.prog 50 #[v, .func (.func 51) #[] #[]] w (RetD (.bool (!s.all RX.isSign)) w) := by
  have H := Lib.hid (indexf_any s v w hv)
  obtain ⟨A, c, rfl, hlc, hcm, -⟩ := hv
  go_enter Tryd.func50, Tryd.ntmps50
  go_wp2_with fail
  refine H.out.mono ?_
  rintro e w' ⟨n, m, rfl, hn, rfl⟩
  have HN := Lib.hid hn
  clear hn
  go_wp2_with fail
  go_ret
  exact ⟨by rw [← HN.out]; rfl, _, rfl⟩
set_option maxHeartbeats 1000000 in
theorem mays_any (s : List Int) (v : Value) (w : World) (hv : SlC w v s) : Calls Tryd.prog 40 #[v] w (RetD (.bool (s.all RX.isSign)) w) := by
  have H := Lib.hid (containsf_any s v w hv)
  obtain ⟨A, c, rfl, hlc, hcm, -⟩ := hv
  go_enter Tryd.func40, Tryd.ntmps40
  go_wp2_with fail
  refine H.out.mono ?_
  rintro e w' ⟨rfl, m, rfl⟩
  go_wp2_with fail
  go_ret
  exact ⟨by simp, _, rfl⟩
end Go.Proofs.YtfblkahjefdmaaaDoor
