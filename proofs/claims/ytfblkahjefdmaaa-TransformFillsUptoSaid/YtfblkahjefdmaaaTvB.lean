/- Walks: the document's own Letter, Class, pascal, Case. -/
import Derived.Test.YtfblkahjefdmaaaTvA
namespace Go.Proofs.Ytfblkahjefdmaaa
open Go.RowKit

theorem rletter_any (r : Int) (w : World) : Calls Try.prog 128 #[.int .i32 r] w (fun e w' => e = .returned (.bool (RX.within r 97 122 || RX.within r 65 90)) ∧ w' = w) := by
  by_cases h1 : 97 ≤ r <;> by_cases h2 : r ≤ 122 <;> by_cases h3 : 65 ≤ r <;> by_cases h4 : r ≤ 90
  all_goals first | (exfalso; omega) | skip
  all_goals
    go_enter Try.func128, Try.ntmps128
    go_wp2_with fail
    go_ret
    exact ⟨ret_congr (by simp [RX.within]; omega), rfl⟩
theorem rdig_any (r : Int) (w : World) : Calls Try.prog 129 #[.int .i32 r] w (fun e w' => e = .returned (.bool (RX.within r 48 57)) ∧ w' = w) := by
  by_cases h1 : 48 ≤ r <;> by_cases h2 : r ≤ 57
  all_goals first | (exfalso; omega) | skip
  all_goals
    go_enter Try.func129, Try.ntmps129
    go_wp2_with fail
    go_ret
    exact ⟨ret_congr (by simp [RX.within]; omega), rfl⟩
set_option maxHeartbeats 2000000 in
theorem rclass_any (r : Int) (w : World) : Calls Try.prog 106 #[.int .i32 r] w (fun e w' => e = .returned (.int .i64 (RX.classOf r)) ∧ w' = w) := by
  rcases hs : RX.isSign r with _ | _
  · have HS := Lib.hid hs
    have HV := Lib.hid (show RX.classOf r = 0 by unfold RX.classOf; rw [if_pos hs])
    clear hs
    go_enter Try.func106, Try.ntmps106
    go_wp2_with (go_at_call 51; go_loud (refine (rsign_any r _).mono ?_; rw [HS.out]; rintro e w1 ⟨rfl, rfl⟩))
    go_ret
    exact ⟨ret_congr (by rw [HV.out]; rfl), rfl⟩
  have HS := Lib.hid hs
  by_cases e32 : r = 32
  · subst e32
    have HV := Lib.hid (show RX.classOf 32 = 1 by decide)
    clear hs
    go_enter Try.func106, Try.ntmps106
    go_wp2_with (go_at_call 51; go_loud (refine (rsign_any 32 _).mono ?_; rw [HS.out]; rintro e w1 ⟨rfl, rfl⟩))
    go_ret
    exact ⟨ret_congr (by rw [HV.out]; rfl), rfl⟩
  by_cases e9 : r = 9
  · subst e9
    have HV := Lib.hid (show RX.classOf 9 = 1 by decide)
    clear hs
    go_enter Try.func106, Try.ntmps106
    go_wp2_with (go_at_call 51; go_loud (refine (rsign_any 9 _).mono ?_; rw [HS.out]; rintro e w1 ⟨rfl, rfl⟩))
    go_ret
    exact ⟨ret_congr (by rw [HV.out]; rfl), rfl⟩
  by_cases e10 : r = 10
  · subst e10
    have HV := Lib.hid (show RX.classOf 10 = 2 by decide)
    clear hs
    go_enter Try.func106, Try.ntmps106
    go_wp2_with (go_at_call 51; go_loud (refine (rsign_any 10 _).mono ?_; rw [HS.out]; rintro e w1 ⟨rfl, rfl⟩))
    go_ret
    exact ⟨ret_congr (by rw [HV.out]; rfl), rfl⟩
  have b32 : (r == 32) = false := by simpa using e32
  have b9 : (r == 9) = false := by simpa using e9
  have b10 : (r == 10) = false := by simpa using e10
  have hcl : RX.classOf r = if r = 215 ∨ r = 247 then 4 else if (97 ≤ r ∧ r ≤ 122) ∨ (65 ≤ r ∧ r ≤ 90) ∨ (48 ≤ r ∧ r ≤ 57) ∨ r = 95 ∨ (192 ≤ r ∧ r ≤ 255) then 3 else 4 := by
    unfold RX.classOf
    rw [if_neg (by rw [hs]; decide), if_neg (by omega), if_neg e10]
    simp only [within_iff]
  clear hs
  by_cases hL : (97 ≤ r ∧ r ≤ 122) ∨ (65 ≤ r ∧ r ≤ 90)
  · have HL := Lib.hid (show (RX.within r 97 122 || RX.within r 65 90) = true by simp only [Bool.or_eq_true, within_iff]; exact hL)
    have HV := Lib.hid (show RX.classOf r = 3 by rw [hcl, if_neg (by omega), if_pos (by omega)])
    clear hcl hL
    go_enter Try.func106, Try.ntmps106
    go_wp2_with (first
      | (go_at_call 51; go_loud (refine (rsign_any r _).mono ?_; rw [HS.out]; rintro e w1 ⟨rfl, rfl⟩))
      | (go_at_call 128; go_loud (refine (rletter_any r _).mono ?_; rw [HL.out]; rintro e w1 ⟨rfl, rfl⟩)))
    go_ret
    exact ⟨ret_congr (by rw [HV.out]; rfl), rfl⟩
  have HL := Lib.hid (show (RX.within r 97 122 || RX.within r 65 90) = false from Bool.eq_false_iff.2 (fun h => hL (by simpa only [Bool.or_eq_true, within_iff] using h)))
  by_cases hD : 48 ≤ r ∧ r ≤ 57
  · have HD := Lib.hid (show RX.within r 48 57 = true by rw [within_iff]; exact hD)
    have HV := Lib.hid (show RX.classOf r = 3 by rw [hcl, if_neg (by omega), if_pos (by omega)])
    clear hcl hL hD
    go_enter Try.func106, Try.ntmps106
    go_wp2_with (first
      | (go_at_call 51; go_loud (refine (rsign_any r _).mono ?_; rw [HS.out]; rintro e w1 ⟨rfl, rfl⟩))
      | (go_at_call 128; go_loud (refine (rletter_any r _).mono ?_; rw [HL.out]; rintro e w1 ⟨rfl, rfl⟩))
      | (go_at_call 129; go_loud (refine (rdig_any r _).mono ?_; rw [HD.out]; rintro e w1 ⟨rfl, rfl⟩)))
    go_ret
    exact ⟨ret_congr (by rw [HV.out]; rfl), rfl⟩
  have HD := Lib.hid (show RX.within r 48 57 = false by rw [Bool.eq_false_iff, ne_eq, within_iff]; exact hD)
  by_cases h95 : r = 95
  · have HV := Lib.hid (show RX.classOf r = 3 by rw [hcl, if_neg (by omega), if_pos (by omega)])
    have b95 : (r == 95) = true := by simpa using h95
    clear hcl hL hD h95
    go_enter Try.func106, Try.ntmps106
    go_wp2_with (first
      | (go_at_call 51; go_loud (refine (rsign_any r _).mono ?_; rw [HS.out]; rintro e w1 ⟨rfl, rfl⟩))
      | (go_at_call 128; go_loud (refine (rletter_any r _).mono ?_; rw [HL.out]; rintro e w1 ⟨rfl, rfl⟩))
      | (go_at_call 129; go_loud (refine (rdig_any r _).mono ?_; rw [HD.out]; rintro e w1 ⟨rfl, rfl⟩)))
    go_ret
    exact ⟨ret_congr (by rw [HV.out]; rfl), rfl⟩
  have b95 : (r == 95) = false := by simpa using h95
  by_cases h192 : 192 ≤ r
  rotate_left
  · have HV := Lib.hid (show RX.classOf r = 4 by rw [hcl]; split; rfl; rw [if_neg (by omega)])
    have d1 : decide ((192 : Int) ≤ r) = false := decide_eq_false h192
    clear hcl hL hD h95
    go_enter Try.func106, Try.ntmps106
    go_wp2_with (first
      | (go_at_call 51; go_loud (refine (rsign_any r _).mono ?_; rw [HS.out]; rintro e w1 ⟨rfl, rfl⟩))
      | (go_at_call 128; go_loud (refine (rletter_any r _).mono ?_; rw [HL.out]; rintro e w1 ⟨rfl, rfl⟩))
      | (go_at_call 129; go_loud (refine (rdig_any r _).mono ?_; rw [HD.out]; rintro e w1 ⟨rfl, rfl⟩)))
    go_ret
    exact ⟨ret_congr (by rw [HV.out]; rfl), rfl⟩
  have d1 : decide ((192 : Int) ≤ r) = true := decide_eq_true h192
  by_cases h255 : r ≤ 255
  rotate_left
  · have HV := Lib.hid (show RX.classOf r = 4 by rw [hcl]; split; rfl; rw [if_neg (by omega)])
    have d2 : decide (r ≤ 255) = false := decide_eq_false h255
    clear hcl hL hD h95
    go_enter Try.func106, Try.ntmps106
    go_wp2_with (first
      | (go_at_call 51; go_loud (refine (rsign_any r _).mono ?_; rw [HS.out]; rintro e w1 ⟨rfl, rfl⟩))
      | (go_at_call 128; go_loud (refine (rletter_any r _).mono ?_; rw [HL.out]; rintro e w1 ⟨rfl, rfl⟩))
      | (go_at_call 129; go_loud (refine (rdig_any r _).mono ?_; rw [HD.out]; rintro e w1 ⟨rfl, rfl⟩)))
    go_ret
    exact ⟨ret_congr (by rw [HV.out]; rfl), rfl⟩
  have d2 : decide (r ≤ 255) = true := decide_eq_true h255
  by_cases h215 : r = 215
  · have HV := Lib.hid (show RX.classOf r = 4 by rw [hcl, if_pos (.inl h215)])
    have b215 : (r != 215) = false := by simpa using h215
    clear hcl hL hD h95 h215
    go_enter Try.func106, Try.ntmps106
    go_wp2_with (first
      | (go_at_call 51; go_loud (refine (rsign_any r _).mono ?_; rw [HS.out]; rintro e w1 ⟨rfl, rfl⟩))
      | (go_at_call 128; go_loud (refine (rletter_any r _).mono ?_; rw [HL.out]; rintro e w1 ⟨rfl, rfl⟩))
      | (go_at_call 129; go_loud (refine (rdig_any r _).mono ?_; rw [HD.out]; rintro e w1 ⟨rfl, rfl⟩)))
    go_ret
    exact ⟨ret_congr (by rw [HV.out]; rfl), rfl⟩
  have b215 : (r != 215) = true := by simpa using h215
  by_cases h247 : r = 247
  · have HV := Lib.hid (show RX.classOf r = 4 by rw [hcl, if_pos (.inr h247)])
    have b247 : (r != 247) = false := by simpa using h247
    clear hcl hL hD h95 h215 h247
    go_enter Try.func106, Try.ntmps106
    go_wp2_with (first
      | (go_at_call 51; go_loud (refine (rsign_any r _).mono ?_; rw [HS.out]; rintro e w1 ⟨rfl, rfl⟩))
      | (go_at_call 128; go_loud (refine (rletter_any r _).mono ?_; rw [HL.out]; rintro e w1 ⟨rfl, rfl⟩))
      | (go_at_call 129; go_loud (refine (rdig_any r _).mono ?_; rw [HD.out]; rintro e w1 ⟨rfl, rfl⟩)))
    go_ret
    exact ⟨ret_congr (by rw [HV.out]; rfl), rfl⟩
  have b247 : (r != 247) = true := by simpa using h247
  have HV := Lib.hid (show RX.classOf r = 3 by rw [hcl, if_neg (by omega), if_pos (by omega)])
  clear hcl hL hD h95 h215 h247
  go_enter Try.func106, Try.ntmps106
  go_wp2_with (first
    | (go_at_call 51; go_loud (refine (rsign_any r _).mono ?_; rw [HS.out]; rintro e w1 ⟨rfl, rfl⟩))
    | (go_at_call 128; go_loud (refine (rletter_any r _).mono ?_; rw [HL.out]; rintro e w1 ⟨rfl, rfl⟩))
    | (go_at_call 129; go_loud (refine (rdig_any r _).mono ?_; rw [HD.out]; rintro e w1 ⟨rfl, rfl⟩)))
  go_ret
  exact ⟨ret_congr (by rw [HV.out]; rfl), rfl⟩
set_option maxRecDepth 100000 in
set_option maxHeartbeats 4000000 in
theorem rpascal_any (camel : Bool) (s : List Int) (vs : Value) (w : World) (hs : SlC w vs s) (hsl : s.length ≤ 35184372088000) :
    Calls Try.prog 73 #[vs, .bool camel] w (RetP (fun w' v => OwnB 21 1 Cc w.heap.size w' v (TR.runs (if camel = true then RX.lower else RX.upper) s)) w) := by
  obtain ⟨A, ca, rfl, hlx, hcx, -⟩ := id hs
  have H := Lib.hid hs
  obtain ⟨first, hf⟩ : ∃ f, (if camel = true then RX.lower else RX.upper) = f := ⟨_, rfl⟩
  rw [hf]
  have HF := Lib.hid hf
  obtain ⟨R, hR⟩ : ∃ R, TR.runs first s = R := ⟨_, rfl⟩
  rw [hR]
  have HR := Lib.hid hR
  clear hs hf hR
  go_enter Try.func73, Try.ntmps73
  go_wp2_with fail
  go_loopw [5, 6, 7] (fun x5 x6 x7 wr => ∃ (k : Nat) (b : Bool) (o : List Int), k ≤ s.length ∧ x7 = .int .i64 (k : Int) ∧ x6 = .bool b ∧ OwnB 21 1 Cc w.heap.size wr x5 o ∧ o.length ≤ k ∧ TR.runsL first (s.drop k) o b = R ∧ Ext w wr) (fun _ _ x7 _ => s.length - (intOf x7).toNat)
  case atStart => exact ⟨0, false, [], Nat.zero_le _, rfl, rfl, OwnB.nil_, Nat.le_refl _, HR.out, Ext.refl _⟩
  case round =>
    obtain ⟨k, b, o, hk, rfl, rfl, hown, hol, hrun, hx⟩ := hrel
    have HO := Lib.hid hown
    have HX := Lib.hid hx
    obtain ⟨Ao, co, rfl, -⟩ := hown.form
    by_cases hlt : k < s.length
    rotate_left
    · have hd : decide ((k : Int) < (s.length : Int)) = false := by simp; omega
      rw [List.drop_eq_nil_of_le (by omega)] at hrun
      have HRUN := Lib.hid hrun
      clear hown hx hrun
      go_wp2_with fail
      go_ret
      exact ⟨_, rfl, by rw [← HRUN.out]; exact HO.out, HX.out⟩
    have hd : decide ((k : Int) < (s.length : Int)) = true := by simp; omega
    have hki : (k : Int) < (s.length : Int) := by omega
    obtain ⟨g, og, rfl, hc⟩ := (H.out.ext hx).at_ (k := k) hlt
    rw [List.drop_eq_getElem_cons hlt, TR.runsL] at hrun
    generalize s[k] = x at hrun hc
    have hcc := hx
    by_cases hw : RX.classOf x = 3 ∧ x ≠ 95
    rotate_left
    · rw [if_neg hw] at hrun
      have HRUN := Lib.hid hrun
      clear hown hx hrun hcc
      by_cases h3 : RX.classOf x = 3
      · have b95 : (x != 95) = false := by simpa using fun h => hw ⟨h3, h⟩
        have HC3 := Lib.hid h3
        clear hw h3
        go_wp2_with (go_at_call 106; go_loud (refine (rclass_any x _).mono ?_; rw [HC3.out]; rintro e w1 ⟨rfl, rfl⟩))
        go_roundw
        case rel => exact ⟨k + 1, false, o, by omega, by go_num, rfl, HO.out, by omega, HRUN.out, HX.out⟩
        case measure => simp [intOf]; omega
      · have HC3 := Lib.hid (show (RX.classOf x == 3) = false by simpa using h3)
        obtain ⟨z, hz⟩ : ∃ z, RX.classOf x = z := ⟨_, rfl⟩
        have hz3 : (z == 3) = false := by rw [← hz]; exact HC3.out
        have HZ := Lib.hid hz
        clear hw h3 hz
        go_wp2_with (go_at_call 106; go_loud (refine (rclass_any x _).mono ?_; rw [HZ.out]; rintro e w1 ⟨rfl, rfl⟩))
        go_roundw
        case rel => exact ⟨k + 1, false, o, by omega, by go_num, rfl, HO.out, by omega, HRUN.out, HX.out⟩
        case measure => simp [intOf]; omega
    · rw [if_pos hw] at hrun
      obtain ⟨h3, h95⟩ := hw
      have b95 : (x != 95) = true := by simpa using h95
      have HC3 := Lib.hid h3
      have HRUN := Lib.hid hrun
      clear hown hx hrun hcc h3 h95
      rcases b with _ | _
      · rcases camel with _ | _
        · have HY := Lib.hid (show TR.runsL first (s.drop (k + 1)) (o ++ [RX.upper x]) true = R by
            rw [← HRUN.out, ← HF.out]; simp)
          go_wp2_with (first
            | (go_at_call 106; go_loud (refine (rclass_any x _).mono ?_; rw [HC3.out]; rintro e w1 ⟨rfl, rfl⟩))
            | (go_at_call 40; go_loud (refine (rupper_any x _).mono ?_; rintro e w2 ⟨rfl, n2, rfl⟩))
            | (at_builtin; go_loud (refine app_i32L rfl _ _ rfl w.heap.size _ o [RX.upper x] (OwnB.allocs (OwnB.drewN (n := n2) HO.out)) rfl ⟨_, 0, none⟩ 1 1 rfl rfl (one_cells rfl) ?hn ?hB ?_; (case hn => (simp only [List.length_cons, List.length_nil]; omega)); (case hB => exact ((HX.out.drewN n2).alloc _).size); intro v8 w8 h1 h2; have HX8 := Lib.hid (((HX.out.drewN n2).alloc _).grown h2 (fun j hj => (HO.out.lt j hj).1)); generalize hl : o ++ [RX.upper x] = o8 at h1; have HL8 := Lib.hid hl; have HO8 := Lib.hid h1; obtain ⟨A8, c8, rfl, -⟩ := h1.form; clear h1 h2 hl)))
          go_roundw
          case rel => exact ⟨k + 1, true, o8, by omega, by go_num, rfl, HO8.out, by rw [← HL8.out, List.length_append]; simp only [List.length_cons, List.length_nil]; omega, by rw [← HL8.out]; exact HY.out, HX8.out⟩
          case measure => simp [intOf]; omega
        · by_cases ho : o.length = 0
          · have d0 : ((o.length : Int) == 0) = true := beq_iff_eq.2 (by omega)
            have d0' : (o.length == 0) = true := beq_iff_eq.2 ho
            have HY := Lib.hid (show TR.runsL first (s.drop (k + 1)) (o ++ [RX.lower x]) true = R by
              rw [← HRUN.out, ← HF.out, List.eq_nil_of_length_eq_zero ho]; simp)
            clear ho
            go_wp2_with (first
              | (go_at_call 106; go_loud (refine (rclass_any x _).mono ?_; rw [HC3.out]; rintro e w1 ⟨rfl, rfl⟩))
              | (go_at_call 41; go_loud (refine (rlower_any x _).mono ?_; rintro e w2 ⟨rfl, n2, rfl⟩))
              | (at_builtin; go_loud (refine app_i32L rfl _ _ rfl w.heap.size _ o [RX.lower x] (OwnB.allocs (OwnB.drewN (n := n2) HO.out)) rfl ⟨_, 0, none⟩ 1 1 rfl rfl (one_cells rfl) ?hn ?hB ?_; (case hn => (simp only [List.length_cons, List.length_nil]; omega)); (case hB => exact ((HX.out.drewN n2).alloc _).size); intro v8 w8 h1 h2; have HX8 := Lib.hid (((HX.out.drewN n2).alloc _).grown h2 (fun j hj => (HO.out.lt j hj).1)); generalize hl : o ++ [RX.lower x] = o8 at h1; have HL8 := Lib.hid hl; have HO8 := Lib.hid h1; obtain ⟨A8, c8, rfl, -⟩ := h1.form; clear h1 h2 hl)))
            go_roundw
            case rel => exact ⟨k + 1, true, o8, by omega, by go_num, rfl, HO8.out, by rw [← HL8.out, List.length_append]; simp only [List.length_cons, List.length_nil]; omega, by rw [← HL8.out]; exact HY.out, HX8.out⟩
            case measure => simp [intOf]; omega
          · have d0 : ((o.length : Int) == 0) = false := beq_eq_false_iff_ne.2 (by omega)
            have d0' : (o.length == 0) = false := beq_eq_false_iff_ne.2 ho
            have HY := Lib.hid (show TR.runsL first (s.drop (k + 1)) (o ++ [RX.upper x]) true = R by
              rw [← HRUN.out, ← HF.out, if_neg (show ¬ false = true by decide), if_neg (show ¬ o.isEmpty = true by cases o with | nil => exact absurd rfl ho | cons a t => simp)])
            clear ho
            go_wp2_with (first
              | (go_at_call 106; go_loud (refine (rclass_any x _).mono ?_; rw [HC3.out]; rintro e w1 ⟨rfl, rfl⟩))
              | (go_at_call 40; go_loud (refine (rupper_any x _).mono ?_; rintro e w2 ⟨rfl, n2, rfl⟩))
              | (at_builtin; go_loud (refine app_i32L rfl _ _ rfl w.heap.size _ o [RX.upper x] (OwnB.allocs (OwnB.drewN (n := n2) HO.out)) rfl ⟨_, 0, none⟩ 1 1 rfl rfl (one_cells rfl) ?hn ?hB ?_; (case hn => (simp only [List.length_cons, List.length_nil]; omega)); (case hB => exact ((HX.out.drewN n2).alloc _).size); intro v8 w8 h1 h2; have HX8 := Lib.hid (((HX.out.drewN n2).alloc _).grown h2 (fun j hj => (HO.out.lt j hj).1)); generalize hl : o ++ [RX.upper x] = o8 at h1; have HL8 := Lib.hid hl; have HO8 := Lib.hid h1; obtain ⟨A8, c8, rfl, -⟩ := h1.form; clear h1 h2 hl)))
            go_roundw
            case rel => exact ⟨k + 1, true, o8, by omega, by go_num, rfl, HO8.out, by rw [← HL8.out, List.length_append]; simp only [List.length_cons, List.length_nil]; omega, by rw [← HL8.out]; exact HY.out, HX8.out⟩
            case measure => simp [intOf]; omega
      · have HY := Lib.hid (show TR.runsL first (s.drop (k + 1)) (o ++ [x]) true = R by rw [← HRUN.out]; simp)
        go_wp2_with (first
          | (go_at_call 106; go_loud (refine (rclass_any x _).mono ?_; rw [HC3.out]; rintro e w1 ⟨rfl, rfl⟩))
          | (at_builtin; go_loud (refine app_i32L rfl _ _ rfl w.heap.size _ o [x] (OwnB.allocs HO.out) rfl ⟨_, 0, none⟩ 1 1 rfl rfl (one_cells rfl) ?hn ?hB ?_; (case hn => (simp only [List.length_cons, List.length_nil]; omega)); (case hB => exact (HX.out.alloc _).size); intro v8 w8 h1 h2; have HX8 := Lib.hid ((HX.out.alloc _).grown h2 (fun j hj => (HO.out.lt j hj).1)); generalize hl : o ++ [x] = o8 at h1; have HL8 := Lib.hid hl; have HO8 := Lib.hid h1; obtain ⟨A8, c8, rfl, -⟩ := h1.form; clear h1 h2 hl)))
        go_roundw
        case rel => exact ⟨k + 1, true, o8, by omega, by go_num, rfl, HO8.out, by rw [← HL8.out, List.length_append]; simp only [List.length_cons, List.length_nil]; omega, by rw [← HL8.out]; exact HY.out, HX8.out⟩
        case measure => simp [intOf]; omega
theorem caseR_P (how : Int) (h4 : how ≠ 4) (h5 : how ≠ 5) (s : List Int) : caseR how s = TR.caseP how s := by
  unfold caseR TR.caseP
  by_cases h1 : how = 1
  · subst h1
    rw [if_pos rfl]
    apply List.ext_getElem?
    intro i
    rw [List.getElem?_mapIdx, List.getElem?_map]
    cases s[i]? <;> simp [caseF]
  · rw [if_neg h1]
    by_cases h2 : how = 2
    · subst h2
      rw [if_pos rfl]
      apply List.ext_getElem?
      intro i
      rw [List.getElem?_mapIdx, List.getElem?_map]
      cases s[i]? <;> simp [caseF]
    · rw [if_neg h2]
      by_cases h3 : how = 3
      · subst h3
        rw [if_pos rfl]
        cases s with
        | nil => rfl
        | cons x r =>
          simp only [TR.capT]
          apply List.ext_getElem?
          intro i
          rw [List.getElem?_mapIdx]
          cases i with
          | zero => simp [caseF]
          | succ i => cases hr : r[i]? <;> simp [caseF, hr]
      · rw [if_neg h3, if_neg h4, if_neg h5]
        apply List.ext_getElem?
        intro i
        rw [List.getElem?_mapIdx]
        cases s[i]? <;> simp [caseF, h1, h2, h3]
set_option maxRecDepth 100000 in
set_option maxHeartbeats 2000000 in
theorem rcaseP_any (how : Int) (s : List Int) (vs : Value) (w : World) (hs : SlC w vs s) (hsl : s.length ≤ 35184372088000) :
    Calls Try.prog 39 #[vs, .int .i64 how] w (RetP (fun w' v => OwnB 21 1 Cc w.heap.size w' v (TR.caseP how s)) w) := by
  by_cases h : how = 4 ∨ how = 5
  rotate_left
  · have h4 : how ≠ 4 := fun e => h (.inl e)
    have h5 : how ≠ 5 := fun e => h (.inr e)
    rw [← caseR_P how h4 h5 s]
    exact rcase_any how h4 h5 s vs w hs (by omega)
  obtain ⟨A, ca, rfl, hlx, hcx, -⟩ := id hs
  have H := Lib.hid hs
  have HNIL := Lib.hid (show OwnB 21 1 Cc w.heap.size w (.slice none 0 0) ([] : List Int) from OwnB.nil_)
  clear hs
  rcases h with rfl | rfl
  all_goals
    go_enter Try.func39, Try.ntmps39
    go_wp2_with (first
      | (at_builtin; go_loud (refine app_srcC rfl _ _ rfl w.heap.size (.slice none 0 0) _ [] s HNIL.out rfl rfl H.out ?hn ?hB ?_; (case hn => (simp only [List.length_nil]; omega)); (case hB => exact Nat.le_refl _); intro v6 w6 h1 h2; have hE6 : Ext w w6 := (Ext.refl w).grown h2 (fun k hk => (HNIL.out.lt k hk).1); rw [List.nil_append] at h1; obtain ⟨A6, c6, rfl, -⟩ := h1.form; have HE6 := Lib.hid hE6; clear h1 h2 hE6))
      | (go_at_call 73; go_loud (refine (rpascal_any _ s _ _ (H.out.ext HE6.out) hsl).mono ?_; rintro e w7 ⟨v7, rfl, ho7, hx7⟩; have HO7 := Lib.hid ho7; have HX7 := Lib.hid (HE6.out.trans hx7); clear ho7 hx7)))
    go_ret
    exact ⟨_, rfl, OwnB.weak HO7.out HE6.out.size, HX7.out⟩
end Go.Proofs.Ytfblkahjefdmaaa
