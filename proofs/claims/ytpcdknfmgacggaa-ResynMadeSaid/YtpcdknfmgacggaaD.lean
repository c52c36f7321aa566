/- For ResynMadeS: what the texts XMxV XRcl of wip/tpl say. -/
import Derived.Test.YtpcdknfmgacggaaB
import Derived.Test.YtpcdknfmgacggaaC
set_option maxHeartbeats 2000000
namespace Go.Proofs.Ytpcdknfmgacggaa
open Go.RowKit
theorem rlower_any (r : Int) (w : World) : Calls Try.prog 64 #[.int .i32 r] w (RetD (.int .i32 (RX.lower r)) w) := by
  go_enter Try.func64, Try.ntmps64
  by_cases h1 : 65 ≤ r <;> by_cases h2 : r ≤ 90 <;> by_cases h3 : 192 ≤ r <;> by_cases h4 : r ≤ 222 <;> by_cases h5 : r = 215
  all_goals first
    | (exfalso; omega)
    | skip
  all_goals
    go_wp2_with fail
    go_ret
    refine ⟨ret_congr ?_, 0, rfl⟩
    simp [RX.lower, RX.within, *] <;> omega
theorem rsignQ_any (r : Int) (w : World) : Calls Try.prog 26 #[.int .i32 r] w (fun e w' => e = .returned (.bool (RX.isSign r)) ∧ w' = w) := by
  by_cases h1 : 0 ≤ r <;> by_cases h2 : r ≤ 1114111 <;> by_cases h3 : r < 55296 <;> by_cases h4 : 57343 < r
  all_goals first | (exfalso; omega) | skip
  all_goals
    go_enter Try.func26, Try.ntmps26
    go_wp2_with fail
    go_ret
    exact ⟨ret_congr (by simp [RX.isSign]; omega), rfl⟩
theorem rletterQ_any (r : Int) (w : World) : Calls Try.prog 68 #[.int .i32 r] w (fun e w' => e = .returned (.bool (RX.within r 97 122 || RX.within r 65 90)) ∧ w' = w) := by
  by_cases h1 : 97 ≤ r <;> by_cases h2 : r ≤ 122 <;> by_cases h3 : 65 ≤ r <;> by_cases h4 : r ≤ 90
  all_goals first | (exfalso; omega) | skip
  all_goals
    go_enter Try.func68, Try.ntmps68
    go_wp2_with fail
    go_ret
    exact ⟨ret_congr (by simp [RX.within]; omega), rfl⟩
theorem rdigQ_any (r : Int) (w : World) : Calls Try.prog 66 #[.int .i32 r] w (fun e w' => e = .returned (.bool (RX.within r 48 57)) ∧ w' = w) := by
  by_cases h1 : 48 ≤ r <;> by_cases h2 : r ≤ 57
  all_goals first | (exfalso; omega) | skip
  all_goals
    go_enter Try.func66, Try.ntmps66
    go_wp2_with fail
    go_ret
    exact ⟨ret_congr (by simp [RX.within]; omega), rfl⟩
theorem rclassQ_any (r : Int) (w : World) : Calls Try.prog 65 #[.int .i32 r] w (fun e w' => e = .returned (.int .i64 (RX.classOf r)) ∧ w' = w) := by
  rcases hs : RX.isSign r with _ | _
  · have HS := Lib.hid hs
    have HV := Lib.hid (show RX.classOf r = 0 by unfold RX.classOf; rw [if_pos hs])
    clear hs
    go_enter Try.func65, Try.ntmps65
    go_wp2_with (go_at_call 26; go_loud (refine (rsignQ_any r _).mono ?_; rw [HS.out]; rintro e w1 ⟨rfl, rfl⟩))
    go_ret
    exact ⟨ret_congr (by rw [HV.out]; rfl), rfl⟩
  have HS := Lib.hid hs
  by_cases e32 : r = 32
  · subst e32
    have HV := Lib.hid (show RX.classOf 32 = 1 by decide)
    clear hs
    go_enter Try.func65, Try.ntmps65
    go_wp2_with (go_at_call 26; go_loud (refine (rsignQ_any 32 _).mono ?_; rw [HS.out]; rintro e w1 ⟨rfl, rfl⟩))
    go_ret
    exact ⟨ret_congr (by rw [HV.out]; rfl), rfl⟩
  by_cases e9 : r = 9
  · subst e9
    have HV := Lib.hid (show RX.classOf 9 = 1 by decide)
    clear hs
    go_enter Try.func65, Try.ntmps65
    go_wp2_with (go_at_call 26; go_loud (refine (rsignQ_any 9 _).mono ?_; rw [HS.out]; rintro e w1 ⟨rfl, rfl⟩))
    go_ret
    exact ⟨ret_congr (by rw [HV.out]; rfl), rfl⟩
  by_cases e10 : r = 10
  · subst e10
    have HV := Lib.hid (show RX.classOf 10 = 2 by decide)
    clear hs
    go_enter Try.func65, Try.ntmps65
    go_wp2_with (go_at_call 26; go_loud (refine (rsignQ_any 10 _).mono ?_; rw [HS.out]; rintro e w1 ⟨rfl, rfl⟩))
    go_ret
    exact ⟨ret_congr (by rw [HV.out]; rfl), rfl⟩
  have b32 : (r == 32) = false := by simpa using e32
  have b9 : (r == 9) = false := by simpa using e9
  have b10 : (r == 10) = false := by simpa using e10
  have hcl : RX.classOf r = if r = 215 ∨ r = 247 then 4 else if (97 ≤ r ∧ r ≤ 122) ∨ (65 ≤ r ∧ r ≤ 90) ∨ (48 ≤ r ∧ r ≤ 57) ∨ r = 95 ∨ (192 ≤ r ∧ r ≤ 255) then 3 else 4 := by
    unfold RX.classOf
    rw [if_neg (by rw [hs]; decide), if_neg (by omega), if_neg e10]
    simp only [within_iff]
  clear hs
  by_cases hL : (97 ≤ r ∧ r ≤ 122) ∨ (65 ≤ r ∧ r ≤ 90)
  · have HL := Lib.hid (show (RX.within r 97 122 || RX.within r 65 90) = true by simp only [Bool.or_eq_true, within_iff]; exact hL)
    have HV := Lib.hid (show RX.classOf r = 3 by rw [hcl, if_neg (by omega), if_pos (by omega)])
    clear hcl hL
    go_enter Try.func65, Try.ntmps65
    go_wp2_with (first
      | (go_at_call 26; go_loud (refine (rsignQ_any r _).mono ?_; rw [HS.out]; rintro e w1 ⟨rfl, rfl⟩))
      | (go_at_call 68; go_loud (refine (rletterQ_any r _).mono ?_; rw [HL.out]; rintro e w1 ⟨rfl, rfl⟩)))
    go_ret
    exact ⟨ret_congr (by rw [HV.out]; rfl), rfl⟩
  have HL := Lib.hid (show (RX.within r 97 122 || RX.within r 65 90) = false from Bool.eq_false_iff.2 (fun h => hL (by simpa only [Bool.or_eq_true, within_iff] using h)))
  by_cases hD : 48 ≤ r ∧ r ≤ 57
  · have HD := Lib.hid (show RX.within r 48 57 = true by rw [within_iff]; exact hD)
    have HV := Lib.hid (show RX.classOf r = 3 by rw [hcl, if_neg (by omega), if_pos (by omega)])
    clear hcl hL hD
    go_enter Try.func65, Try.ntmps65
    go_wp2_with (first
      | (go_at_call 26; go_loud (refine (rsignQ_any r _).mono ?_; rw [HS.out]; rintro e w1 ⟨rfl, rfl⟩))
      | (go_at_call 68; go_loud (refine (rletterQ_any r _).mono ?_; rw [HL.out]; rintro e w1 ⟨rfl, rfl⟩))
      | (go_at_call 66; go_loud (refine (rdigQ_any r _).mono ?_; rw [HD.out]; rintro e w1 ⟨rfl, rfl⟩)))
    go_ret
    exact ⟨ret_congr (by rw [HV.out]; rfl), rfl⟩
  have HD := Lib.hid (show RX.within r 48 57 = false by rw [Bool.eq_false_iff, ne_eq, within_iff]; exact hD)
  by_cases h95 : r = 95
  · have HV := Lib.hid (show RX.classOf r = 3 by rw [hcl, if_neg (by omega), if_pos (by omega)])
    have b95 : (r == 95) = true := by simpa using h95
    clear hcl hL hD h95
    go_enter Try.func65, Try.ntmps65
    go_wp2_with (first
      | (go_at_call 26; go_loud (refine (rsignQ_any r _).mono ?_; rw [HS.out]; rintro e w1 ⟨rfl, rfl⟩))
      | (go_at_call 68; go_loud (refine (rletterQ_any r _).mono ?_; rw [HL.out]; rintro e w1 ⟨rfl, rfl⟩))
      | (go_at_call 66; go_loud (refine (rdigQ_any r _).mono ?_; rw [HD.out]; rintro e w1 ⟨rfl, rfl⟩)))
    go_ret
    exact ⟨ret_congr (by rw [HV.out]; rfl), rfl⟩
  have b95 : (r == 95) = false := by simpa using h95
  by_cases h192 : 192 ≤ r
  rotate_left
  · have HV := Lib.hid (show RX.classOf r = 4 by rw [hcl]; split; rfl; rw [if_neg (by omega)])
    have d1 : decide ((192 : Int) ≤ r) = false := decide_eq_false h192
    clear hcl hL hD h95
    go_enter Try.func65, Try.ntmps65
    go_wp2_with (first
      | (go_at_call 26; go_loud (refine (rsignQ_any r _).mono ?_; rw [HS.out]; rintro e w1 ⟨rfl, rfl⟩))
      | (go_at_call 68; go_loud (refine (rletterQ_any r _).mono ?_; rw [HL.out]; rintro e w1 ⟨rfl, rfl⟩))
      | (go_at_call 66; go_loud (refine (rdigQ_any r _).mono ?_; rw [HD.out]; rintro e w1 ⟨rfl, rfl⟩)))
    go_ret
    exact ⟨ret_congr (by rw [HV.out]; rfl), rfl⟩
  have d1 : decide ((192 : Int) ≤ r) = true := decide_eq_true h192
  by_cases h255 : r ≤ 255
  rotate_left
  · have HV := Lib.hid (show RX.classOf r = 4 by rw [hcl]; split; rfl; rw [if_neg (by omega)])
    have d2 : decide (r ≤ 255) = false := decide_eq_false h255
    clear hcl hL hD h95
    go_enter Try.func65, Try.ntmps65
    go_wp2_with (first
      | (go_at_call 26; go_loud (refine (rsignQ_any r _).mono ?_; rw [HS.out]; rintro e w1 ⟨rfl, rfl⟩))
      | (go_at_call 68; go_loud (refine (rletterQ_any r _).mono ?_; rw [HL.out]; rintro e w1 ⟨rfl, rfl⟩))
      | (go_at_call 66; go_loud (refine (rdigQ_any r _).mono ?_; rw [HD.out]; rintro e w1 ⟨rfl, rfl⟩)))
    go_ret
    exact ⟨ret_congr (by rw [HV.out]; rfl), rfl⟩
  have d2 : decide (r ≤ 255) = true := decide_eq_true h255
  by_cases h215 : r = 215
  · have HV := Lib.hid (show RX.classOf r = 4 by rw [hcl, if_pos (.inl h215)])
    have b215 : (r != 215) = false := by simpa using h215
    clear hcl hL hD h95 h215
    go_enter Try.func65, Try.ntmps65
    go_wp2_with (first
      | (go_at_call 26; go_loud (refine (rsignQ_any r _).mono ?_; rw [HS.out]; rintro e w1 ⟨rfl, rfl⟩))
      | (go_at_call 68; go_loud (refine (rletterQ_any r _).mono ?_; rw [HL.out]; rintro e w1 ⟨rfl, rfl⟩))
      | (go_at_call 66; go_loud (refine (rdigQ_any r _).mono ?_; rw [HD.out]; rintro e w1 ⟨rfl, rfl⟩)))
    go_ret
    exact ⟨ret_congr (by rw [HV.out]; rfl), rfl⟩
  have b215 : (r != 215) = true := by simpa using h215
  by_cases h247 : r = 247
  · have HV := Lib.hid (show RX.classOf r = 4 by rw [hcl, if_pos (.inr h247)])
    have b247 : (r != 247) = false := by simpa using h247
    clear hcl hL hD h95 h215 h247
    go_enter Try.func65, Try.ntmps65
    go_wp2_with (first
      | (go_at_call 26; go_loud (refine (rsignQ_any r _).mono ?_; rw [HS.out]; rintro e w1 ⟨rfl, rfl⟩))
      | (go_at_call 68; go_loud (refine (rletterQ_any r _).mono ?_; rw [HL.out]; rintro e w1 ⟨rfl, rfl⟩))
      | (go_at_call 66; go_loud (refine (rdigQ_any r _).mono ?_; rw [HD.out]; rintro e w1 ⟨rfl, rfl⟩)))
    go_ret
    exact ⟨ret_congr (by rw [HV.out]; rfl), rfl⟩
  have b247 : (r != 247) = true := by simpa using h247
  have HV := Lib.hid (show RX.classOf r = 3 by rw [hcl, if_neg (by omega), if_pos (by omega)])
  clear hcl hL hD h95 h215 h247
  go_enter Try.func65, Try.ntmps65
  go_wp2_with (first
    | (go_at_call 26; go_loud (refine (rsignQ_any r _).mono ?_; rw [HS.out]; rintro e w1 ⟨rfl, rfl⟩))
    | (go_at_call 68; go_loud (refine (rletterQ_any r _).mono ?_; rw [HL.out]; rintro e w1 ⟨rfl, rfl⟩))
    | (go_at_call 66; go_loud (refine (rdigQ_any r _).mono ?_; rw [HD.out]; rintro e w1 ⟨rfl, rfl⟩)))
  go_ret
  exact ⟨ret_congr (by rw [HV.out]; rfl), rfl⟩
end Go.Proofs.Ytpcdknfmgacggaa
