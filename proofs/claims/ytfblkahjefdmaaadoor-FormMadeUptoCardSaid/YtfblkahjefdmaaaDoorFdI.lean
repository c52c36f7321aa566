/- Walk: may of package format. -/
import Derived.Test.YtfblkahjefdmaaaDoorFdH
import Derived.Deep.QuietTactic
import Derived.BigQuiet
namespace Go.Proofs.YtfblkahjefdmaaaDoor
open Go.RowKit

set_option maxRecDepth 100000 in
set_option maxHeartbeats 8000000 in
theorem may1_any (k g c : Int) (t e : List Int) (vt ve : Value) (w : World) (ht : SlC w vt t) (he : SlC w ve e) :
    Calls Tryd.prog 38 #[.agg #[.int .i64 k, .int .i64 g, .int .i64 c, vt, ve]] w (Ret (.bool (FM.may1 ⟨k, g, c, t, e⟩)) w) := by
  have HT := Lib.hid (fun W (hW : Ext w W) => mays_any t vt W (ht.ext hW))
  have HE := Lib.hid (fun W (hW : Ext w W) => mays_any e ve W (he.ext hW))
  obtain ⟨At, ct, rfl, hlt, hct, -⟩ := ht
  obtain ⟨Ae, ce, rfl, hle, hce, -⟩ := he
  rcases hb1 : t.all RX.isSign with _ | _
  · have hb2 := rfl (a := e.all RX.isSign)
    have HV := Lib.hid (show FM.may1 ⟨k, g, c, t, e⟩ = false by simp [FM.may1, hb1])
    go_enter Tryd.func38, Tryd.ntmps38
    go_wp2_with fail
    go_quiet (fail)
    go_wp2_with (first | (go_at_call 40; ((with_reducible refine (HT.out _ ?hw).mono ?_); (case hw => (focus (repeat (first | exact Ext.refl _ | apply Ext.drewN | apply Ext.alloc)))); rw [hb1]; rintro e' w' ⟨rfl, n1, rfl⟩)) | (go_at_call 40; ((with_reducible refine (HE.out _ ?hw).mono ?_); (case hw => (focus (repeat (first | exact Ext.refl _ | apply Ext.drewN | apply Ext.alloc)))); rw [hb2]; rintro e' w' ⟨rfl, n2, rfl⟩)))
    go_ret
    exact ⟨ret_congr (by rw [HV.out]; rfl), by (focus (repeat (first | exact Ext.refl _ | apply Ext.drewN | apply Ext.alloc)))⟩
  rcases hb2 : e.all RX.isSign with _ | _
  · have HV := Lib.hid (show FM.may1 ⟨k, g, c, t, e⟩ = false by simp [FM.may1, hb1, hb2])
    go_enter Tryd.func38, Tryd.ntmps38
    go_wp2_with fail
    go_quiet (fail)
    go_wp2_with (first | (go_at_call 40; ((with_reducible refine (HT.out _ ?hw).mono ?_); (case hw => (focus (repeat (first | exact Ext.refl _ | apply Ext.drewN | apply Ext.alloc)))); rw [hb1]; rintro e' w' ⟨rfl, n1, rfl⟩)) | (go_at_call 40; ((with_reducible refine (HE.out _ ?hw).mono ?_); (case hw => (focus (repeat (first | exact Ext.refl _ | apply Ext.drewN | apply Ext.alloc)))); rw [hb2]; rintro e' w' ⟨rfl, n2, rfl⟩)))
    go_ret
    exact ⟨ret_congr (by rw [HV.out]; rfl), by (focus (repeat (first | exact Ext.refl _ | apply Ext.drewN | apply Ext.alloc)))⟩
  rcases h3 : decide (g < 0) with _ | _
  rotate_left
  · have h3' := of_decide_eq_true h3
    have HV := Lib.hid (show FM.may1 ⟨k, g, c, t, e⟩ = false by simp [FM.may1, hb1, hb2]; omega)
    go_enter Tryd.func38, Tryd.ntmps38
    go_wp2_with fail
    go_quiet (fail)
    go_wp2_with (first | (go_at_call 40; ((with_reducible refine (HT.out _ ?hw).mono ?_); (case hw => (focus (repeat (first | exact Ext.refl _ | apply Ext.drewN | apply Ext.alloc)))); rw [hb1]; rintro e' w' ⟨rfl, n1, rfl⟩)) | (go_at_call 40; ((with_reducible refine (HE.out _ ?hw).mono ?_); (case hw => (focus (repeat (first | exact Ext.refl _ | apply Ext.drewN | apply Ext.alloc)))); rw [hb2]; rintro e' w' ⟨rfl, n2, rfl⟩)))
    go_ret
    exact ⟨ret_congr (by rw [HV.out]; rfl), by (focus (repeat (first | exact Ext.refl _ | apply Ext.drewN | apply Ext.alloc)))⟩
  have h3' := of_decide_eq_false h3
  rcases h4 : decide (99 < g) with _ | _
  rotate_left
  · have h4' := of_decide_eq_true h4
    have HV := Lib.hid (show FM.may1 ⟨k, g, c, t, e⟩ = false by simp [FM.may1, hb1, hb2]; omega)
    go_enter Tryd.func38, Tryd.ntmps38
    go_wp2_with fail
    go_quiet (fail)
    go_wp2_with (first | (go_at_call 40; ((with_reducible refine (HT.out _ ?hw).mono ?_); (case hw => (focus (repeat (first | exact Ext.refl _ | apply Ext.drewN | apply Ext.alloc)))); rw [hb1]; rintro e' w' ⟨rfl, n1, rfl⟩)) | (go_at_call 40; ((with_reducible refine (HE.out _ ?hw).mono ?_); (case hw => (focus (repeat (first | exact Ext.refl _ | apply Ext.drewN | apply Ext.alloc)))); rw [hb2]; rintro e' w' ⟨rfl, n2, rfl⟩)))
    go_ret
    exact ⟨ret_congr (by rw [HV.out]; rfl), by (focus (repeat (first | exact Ext.refl _ | apply Ext.drewN | apply Ext.alloc)))⟩
  have h4' := of_decide_eq_false h4
  rcases h5 : decide (c < 0) with _ | _
  rotate_left
  · have h5' := of_decide_eq_true h5
    have HV := Lib.hid (show FM.may1 ⟨k, g, c, t, e⟩ = false by simp [FM.may1, hb1, hb2]; omega)
    go_enter Tryd.func38, Tryd.ntmps38
    go_wp2_with fail
    go_quiet (fail)
    go_wp2_with (first | (go_at_call 40; ((with_reducible refine (HT.out _ ?hw).mono ?_); (case hw => (focus (repeat (first | exact Ext.refl _ | apply Ext.drewN | apply Ext.alloc)))); rw [hb1]; rintro e' w' ⟨rfl, n1, rfl⟩)) | (go_at_call 40; ((with_reducible refine (HE.out _ ?hw).mono ?_); (case hw => (focus (repeat (first | exact Ext.refl _ | apply Ext.drewN | apply Ext.alloc)))); rw [hb2]; rintro e' w' ⟨rfl, n2, rfl⟩)))
    go_ret
    exact ⟨ret_congr (by rw [HV.out]; rfl), by (focus (repeat (first | exact Ext.refl _ | apply Ext.drewN | apply Ext.alloc)))⟩
  have h5' := of_decide_eq_false h5
  rcases h6 : decide (5 < c) with _ | _
  rotate_left
  · have h6' := of_decide_eq_true h6
    have HV := Lib.hid (show FM.may1 ⟨k, g, c, t, e⟩ = false by simp [FM.may1, hb1, hb2]; omega)
    go_enter Tryd.func38, Tryd.ntmps38
    go_wp2_with fail
    go_quiet (fail)
    go_wp2_with (first | (go_at_call 40; ((with_reducible refine (HT.out _ ?hw).mono ?_); (case hw => (focus (repeat (first | exact Ext.refl _ | apply Ext.drewN | apply Ext.alloc)))); rw [hb1]; rintro e' w' ⟨rfl, n1, rfl⟩)) | (go_at_call 40; ((with_reducible refine (HE.out _ ?hw).mono ?_); (case hw => (focus (repeat (first | exact Ext.refl _ | apply Ext.drewN | apply Ext.alloc)))); rw [hb2]; rintro e' w' ⟨rfl, n2, rfl⟩)))
    go_ret
    exact ⟨ret_congr (by rw [HV.out]; rfl), by (focus (repeat (first | exact Ext.refl _ | apply Ext.drewN | apply Ext.alloc)))⟩
  have h6' := of_decide_eq_false h6
  have hg0 : 0 ≤ g := by omega
  have hg9 : g ≤ 99 := by omega
  have hc0 : 0 ≤ c := by omega
  have hc5 : c ≤ 5 := by omega
  rcases hk0 : (k == 0) with _ | _
  rotate_left
  · obtain rfl : k = 0 := by simpa using hk0
    by_cases htt : t = []
    · have htt' : decide ((0 : Int) < (t.length : Int)) = false := by simp [htt]
      have htt2 : decide (0 < t.length) = false := by simp [htt]
      have HV := Lib.hid (show FM.may1 ⟨0, g, c, t, e⟩ = false by simp [FM.may1, hb2, hg0, hg9, hc0, hc5, htt])
      clear htt
      go_enter Tryd.func38, Tryd.ntmps38
      go_wp2_with fail
      go_quiet (fail)
      go_wp2_with (first | (go_at_call 40; ((with_reducible refine (HT.out _ ?hw).mono ?_); (case hw => (focus (repeat (first | exact Ext.refl _ | apply Ext.drewN | apply Ext.alloc)))); rw [hb1]; rintro e' w' ⟨rfl, n1, rfl⟩)) | (go_at_call 40; ((with_reducible refine (HE.out _ ?hw).mono ?_); (case hw => (focus (repeat (first | exact Ext.refl _ | apply Ext.drewN | apply Ext.alloc)))); rw [hb2]; rintro e' w' ⟨rfl, n2, rfl⟩)))
      go_ret
      exact ⟨ret_congr (by rw [HV.out]; rfl), by (focus (repeat (first | exact Ext.refl _ | apply Ext.drewN | apply Ext.alloc)))⟩
    · have htt' : decide ((0 : Int) < (t.length : Int)) = true := by cases t with | nil => exact absurd rfl htt | cons a b => simp
      have htt2 : decide (0 < t.length) = true := by cases t with | nil => exact absurd rfl htt | cons a b => simp
      by_cases hee : e = []
      · have hee' : decide ((0 : Int) < (e.length : Int)) = false := by simp [hee]
        have hee2 : decide (0 < e.length) = false := by simp [hee]
        rcases hgg : (g == 0) with _ | _
        · have hgg' : ¬ g = 0 := by simpa using hgg
          have HV := Lib.hid (show FM.may1 ⟨0, g, c, t, e⟩ = false by simp [FM.may1, hb1, hg0, hg9, hc0, hc5, hee, hgg'])
          clear htt hee hgg'
          go_enter Tryd.func38, Tryd.ntmps38
          go_wp2_with fail
          go_quiet (fail)
          go_wp2_with (first | (go_at_call 40; ((with_reducible refine (HT.out _ ?hw).mono ?_); (case hw => (focus (repeat (first | exact Ext.refl _ | apply Ext.drewN | apply Ext.alloc)))); rw [hb1]; rintro e' w' ⟨rfl, n1, rfl⟩)) | (go_at_call 40; ((with_reducible refine (HE.out _ ?hw).mono ?_); (case hw => (focus (repeat (first | exact Ext.refl _ | apply Ext.drewN | apply Ext.alloc)))); rw [hb2]; rintro e' w' ⟨rfl, n2, rfl⟩)))
          go_ret
          exact ⟨ret_congr (by rw [HV.out]; rfl), by (focus (repeat (first | exact Ext.refl _ | apply Ext.drewN | apply Ext.alloc)))⟩
        · have hgg' : g = 0 := by simpa using hgg
          rcases hcc : (c == 0) with _ | _
          · have hcc' : ¬ c = 0 := by simpa using hcc
            have HV := Lib.hid (show FM.may1 ⟨0, g, c, t, e⟩ = false by simp [FM.may1, hb1, hc0, hc5, hee, hgg', hcc'])
            clear htt hee hgg' hcc'
            go_enter Tryd.func38, Tryd.ntmps38
            go_wp2_with fail
            go_quiet (fail)
            go_wp2_with (first | (go_at_call 40; ((with_reducible refine (HT.out _ ?hw).mono ?_); (case hw => (focus (repeat (first | exact Ext.refl _ | apply Ext.drewN | apply Ext.alloc)))); rw [hb1]; rintro e' w' ⟨rfl, n1, rfl⟩)) | (go_at_call 40; ((with_reducible refine (HE.out _ ?hw).mono ?_); (case hw => (focus (repeat (first | exact Ext.refl _ | apply Ext.drewN | apply Ext.alloc)))); rw [hb2]; rintro e' w' ⟨rfl, n2, rfl⟩)))
            go_ret
            exact ⟨ret_congr (by rw [HV.out]; rfl), by (focus (repeat (first | exact Ext.refl _ | apply Ext.drewN | apply Ext.alloc)))⟩
          · have hcc' : c = 0 := by simpa using hcc
            have HV := Lib.hid (show FM.may1 ⟨0, g, c, t, e⟩ = true by simp [FM.may1, hb1, htt, hee, hgg', hcc'])
            clear htt hee hgg' hcc'
            go_enter Tryd.func38, Tryd.ntmps38
            go_wp2_with fail
            go_quiet (fail)
            go_wp2_with (first | (go_at_call 40; ((with_reducible refine (HT.out _ ?hw).mono ?_); (case hw => (focus (repeat (first | exact Ext.refl _ | apply Ext.drewN | apply Ext.alloc)))); rw [hb1]; rintro e' w' ⟨rfl, n1, rfl⟩)) | (go_at_call 40; ((with_reducible refine (HE.out _ ?hw).mono ?_); (case hw => (focus (repeat (first | exact Ext.refl _ | apply Ext.drewN | apply Ext.alloc)))); rw [hb2]; rintro e' w' ⟨rfl, n2, rfl⟩)))
            go_ret
            exact ⟨ret_congr (by rw [HV.out]; rfl), by (focus (repeat (first | exact Ext.refl _ | apply Ext.drewN | apply Ext.alloc)))⟩
      · have hee' : decide ((0 : Int) < (e.length : Int)) = true := by cases e with | nil => exact absurd rfl hee | cons a b => simp
        have hee2 : decide (0 < e.length) = true := by cases e with | nil => exact absurd rfl hee | cons a b => simp
        have HV := Lib.hid (show FM.may1 ⟨0, g, c, t, e⟩ = false by simp [FM.may1, hb1, hb2, hg0, hg9, hc0, hc5, htt, hee])
        clear htt hee
        go_enter Tryd.func38, Tryd.ntmps38
        go_wp2_with fail
        go_quiet (fail)
        go_wp2_with (first | (go_at_call 40; ((with_reducible refine (HT.out _ ?hw).mono ?_); (case hw => (focus (repeat (first | exact Ext.refl _ | apply Ext.drewN | apply Ext.alloc)))); rw [hb1]; rintro e' w' ⟨rfl, n1, rfl⟩)) | (go_at_call 40; ((with_reducible refine (HE.out _ ?hw).mono ?_); (case hw => (focus (repeat (first | exact Ext.refl _ | apply Ext.drewN | apply Ext.alloc)))); rw [hb2]; rintro e' w' ⟨rfl, n2, rfl⟩)))
        go_ret
        exact ⟨ret_congr (by rw [HV.out]; rfl), by (focus (repeat (first | exact Ext.refl _ | apply Ext.drewN | apply Ext.alloc)))⟩
  rcases hk1 : (k == 1) with _ | _
  rotate_left
  · obtain rfl : k = 1 := by simpa using hk1
    by_cases htt : t = []
    · have htt' : decide ((0 : Int) < (t.length : Int)) = false := by simp [htt]
      have htt2 : decide (0 < t.length) = false := by simp [htt]
      by_cases hee : e = []
      · have hee' : decide ((0 : Int) < (e.length : Int)) = false := by simp [hee]
        have hee2 : decide (0 < e.length) = false := by simp [hee]
        have HV := Lib.hid (show FM.may1 ⟨1, g, c, t, e⟩ = true by simp [FM.may1, hg0, hg9, hc0, hc5, htt, hee])
        clear htt hee
        go_enter Tryd.func38, Tryd.ntmps38
        go_wp2_with fail
        go_quiet (fail)
        go_wp2_with (first | (go_at_call 40; ((with_reducible refine (HT.out _ ?hw).mono ?_); (case hw => (focus (repeat (first | exact Ext.refl _ | apply Ext.drewN | apply Ext.alloc)))); rw [hb1]; rintro e' w' ⟨rfl, n1, rfl⟩)) | (go_at_call 40; ((with_reducible refine (HE.out _ ?hw).mono ?_); (case hw => (focus (repeat (first | exact Ext.refl _ | apply Ext.drewN | apply Ext.alloc)))); rw [hb2]; rintro e' w' ⟨rfl, n2, rfl⟩)))
        go_ret
        exact ⟨ret_congr (by rw [HV.out]; rfl), by (focus (repeat (first | exact Ext.refl _ | apply Ext.drewN | apply Ext.alloc)))⟩
      · have hee' : decide ((0 : Int) < (e.length : Int)) = true := by cases e with | nil => exact absurd rfl hee | cons a b => simp
        have hee2 : decide (0 < e.length) = true := by cases e with | nil => exact absurd rfl hee | cons a b => simp
        have HV := Lib.hid (show FM.may1 ⟨1, g, c, t, e⟩ = false by simp [FM.may1, hb2, hg0, hg9, hc0, hc5, htt, hee])
        clear htt hee
        go_enter Tryd.func38, Tryd.ntmps38
        go_wp2_with fail
        go_quiet (fail)
        go_wp2_with (first | (go_at_call 40; ((with_reducible refine (HT.out _ ?hw).mono ?_); (case hw => (focus (repeat (first | exact Ext.refl _ | apply Ext.drewN | apply Ext.alloc)))); rw [hb1]; rintro e' w' ⟨rfl, n1, rfl⟩)) | (go_at_call 40; ((with_reducible refine (HE.out _ ?hw).mono ?_); (case hw => (focus (repeat (first | exact Ext.refl _ | apply Ext.drewN | apply Ext.alloc)))); rw [hb2]; rintro e' w' ⟨rfl, n2, rfl⟩)))
        go_ret
        exact ⟨ret_congr (by rw [HV.out]; rfl), by (focus (repeat (first | exact Ext.refl _ | apply Ext.drewN | apply Ext.alloc)))⟩
    · have htt' : decide ((0 : Int) < (t.length : Int)) = true := by cases t with | nil => exact absurd rfl htt | cons a b => simp
      have htt2 : decide (0 < t.length) = true := by cases t with | nil => exact absurd rfl htt | cons a b => simp
      have HV := Lib.hid (show FM.may1 ⟨1, g, c, t, e⟩ = false by simp [FM.may1, hb1, hb2, hg0, hg9, hc0, hc5, htt])
      clear htt
      go_enter Tryd.func38, Tryd.ntmps38
      go_wp2_with fail
      go_quiet (fail)
      go_wp2_with (first | (go_at_call 40; ((with_reducible refine (HT.out _ ?hw).mono ?_); (case hw => (focus (repeat (first | exact Ext.refl _ | apply Ext.drewN | apply Ext.alloc)))); rw [hb1]; rintro e' w' ⟨rfl, n1, rfl⟩)) | (go_at_call 40; ((with_reducible refine (HE.out _ ?hw).mono ?_); (case hw => (focus (repeat (first | exact Ext.refl _ | apply Ext.drewN | apply Ext.alloc)))); rw [hb2]; rintro e' w' ⟨rfl, n2, rfl⟩)))
      go_ret
      exact ⟨ret_congr (by rw [HV.out]; rfl), by (focus (repeat (first | exact Ext.refl _ | apply Ext.drewN | apply Ext.alloc)))⟩
  rcases hk2 : (k == 2) with _ | _
  rotate_left
  · obtain rfl : k = 2 := by simpa using hk2
    by_cases hee : e = []
    · have hee' : decide ((0 : Int) < (e.length : Int)) = false := by simp [hee]
      have hee2 : decide (0 < e.length) = false := by simp [hee]
      rcases hcc : (c == 0) with _ | _
      · have hcc' : ¬ c = 0 := by simpa using hcc
        have HV := Lib.hid (show FM.may1 ⟨2, g, c, t, e⟩ = false by simp [FM.may1, hb1, hg0, hg9, hc0, hc5, hee, hcc'])
        clear hee hcc'
        go_enter Tryd.func38, Tryd.ntmps38
        go_wp2_with fail
        go_quiet (fail)
        go_wp2_with (first | (go_at_call 40; ((with_reducible refine (HT.out _ ?hw).mono ?_); (case hw => (focus (repeat (first | exact Ext.refl _ | apply Ext.drewN | apply Ext.alloc)))); rw [hb1]; rintro e' w' ⟨rfl, n1, rfl⟩)) | (go_at_call 40; ((with_reducible refine (HE.out _ ?hw).mono ?_); (case hw => (focus (repeat (first | exact Ext.refl _ | apply Ext.drewN | apply Ext.alloc)))); rw [hb2]; rintro e' w' ⟨rfl, n2, rfl⟩)))
        go_ret
        exact ⟨ret_congr (by rw [HV.out]; rfl), by (focus (repeat (first | exact Ext.refl _ | apply Ext.drewN | apply Ext.alloc)))⟩
      · have hcc' : c = 0 := by simpa using hcc
        have HV := Lib.hid (show FM.may1 ⟨2, g, c, t, e⟩ = true by simp [FM.may1, hb1, hg0, hg9, hee, hcc'])
        clear hee hcc'
        go_enter Tryd.func38, Tryd.ntmps38
        go_wp2_with fail
        go_quiet (fail)
        go_wp2_with (first | (go_at_call 40; ((with_reducible refine (HT.out _ ?hw).mono ?_); (case hw => (focus (repeat (first | exact Ext.refl _ | apply Ext.drewN | apply Ext.alloc)))); rw [hb1]; rintro e' w' ⟨rfl, n1, rfl⟩)) | (go_at_call 40; ((with_reducible refine (HE.out _ ?hw).mono ?_); (case hw => (focus (repeat (first | exact Ext.refl _ | apply Ext.drewN | apply Ext.alloc)))); rw [hb2]; rintro e' w' ⟨rfl, n2, rfl⟩)))
        go_ret
        exact ⟨ret_congr (by rw [HV.out]; rfl), by (focus (repeat (first | exact Ext.refl _ | apply Ext.drewN | apply Ext.alloc)))⟩
    · have hee' : decide ((0 : Int) < (e.length : Int)) = true := by cases e with | nil => exact absurd rfl hee | cons a b => simp
      have hee2 : decide (0 < e.length) = true := by cases e with | nil => exact absurd rfl hee | cons a b => simp
      have HV := Lib.hid (show FM.may1 ⟨2, g, c, t, e⟩ = false by simp [FM.may1, hb1, hb2, hg0, hg9, hc0, hc5, hee])
      clear hee
      go_enter Tryd.func38, Tryd.ntmps38
      go_wp2_with fail
      go_quiet (fail)
      go_wp2_with (first | (go_at_call 40; ((with_reducible refine (HT.out _ ?hw).mono ?_); (case hw => (focus (repeat (first | exact Ext.refl _ | apply Ext.drewN | apply Ext.alloc)))); rw [hb1]; rintro e' w' ⟨rfl, n1, rfl⟩)) | (go_at_call 40; ((with_reducible refine (HE.out _ ?hw).mono ?_); (case hw => (focus (repeat (first | exact Ext.refl _ | apply Ext.drewN | apply Ext.alloc)))); rw [hb2]; rintro e' w' ⟨rfl, n2, rfl⟩)))
      go_ret
      exact ⟨ret_congr (by rw [HV.out]; rfl), by (focus (repeat (first | exact Ext.refl _ | apply Ext.drewN | apply Ext.alloc)))⟩
  rcases hk3 : (k == 3) with _ | _
  rotate_left
  · obtain rfl : k = 3 := by simpa using hk3
    by_cases htt : t = []
    · have htt' : decide ((0 : Int) < (t.length : Int)) = false := by simp [htt]
      have htt2 : decide (0 < t.length) = false := by simp [htt]
      rcases hcc : (c == 0) with _ | _
      · have hcc' : ¬ c = 0 := by simpa using hcc
        have HV := Lib.hid (show FM.may1 ⟨3, g, c, t, e⟩ = false by simp [FM.may1, hb2, hg0, hg9, hc0, hc5, htt, hcc'])
        clear htt hcc'
        go_enter Tryd.func38, Tryd.ntmps38
        go_wp2_with fail
        go_quiet (fail)
        go_wp2_with (first | (go_at_call 40; ((with_reducible refine (HT.out _ ?hw).mono ?_); (case hw => (focus (repeat (first | exact Ext.refl _ | apply Ext.drewN | apply Ext.alloc)))); rw [hb1]; rintro e' w' ⟨rfl, n1, rfl⟩)) | (go_at_call 40; ((with_reducible refine (HE.out _ ?hw).mono ?_); (case hw => (focus (repeat (first | exact Ext.refl _ | apply Ext.drewN | apply Ext.alloc)))); rw [hb2]; rintro e' w' ⟨rfl, n2, rfl⟩)))
        go_ret
        exact ⟨ret_congr (by rw [HV.out]; rfl), by (focus (repeat (first | exact Ext.refl _ | apply Ext.drewN | apply Ext.alloc)))⟩
      · have hcc' : c = 0 := by simpa using hcc
        have HV := Lib.hid (show FM.may1 ⟨3, g, c, t, e⟩ = true by simp [FM.may1, hb2, hg0, hg9, htt, hcc'])
        clear htt hcc'
        go_enter Tryd.func38, Tryd.ntmps38
        go_wp2_with fail
        go_quiet (fail)
        go_wp2_with (first | (go_at_call 40; ((with_reducible refine (HT.out _ ?hw).mono ?_); (case hw => (focus (repeat (first | exact Ext.refl _ | apply Ext.drewN | apply Ext.alloc)))); rw [hb1]; rintro e' w' ⟨rfl, n1, rfl⟩)) | (go_at_call 40; ((with_reducible refine (HE.out _ ?hw).mono ?_); (case hw => (focus (repeat (first | exact Ext.refl _ | apply Ext.drewN | apply Ext.alloc)))); rw [hb2]; rintro e' w' ⟨rfl, n2, rfl⟩)))
        go_ret
        exact ⟨ret_congr (by rw [HV.out]; rfl), by (focus (repeat (first | exact Ext.refl _ | apply Ext.drewN | apply Ext.alloc)))⟩
    · have htt' : decide ((0 : Int) < (t.length : Int)) = true := by cases t with | nil => exact absurd rfl htt | cons a b => simp
      have htt2 : decide (0 < t.length) = true := by cases t with | nil => exact absurd rfl htt | cons a b => simp
      have HV := Lib.hid (show FM.may1 ⟨3, g, c, t, e⟩ = false by simp [FM.may1, hb1, hb2, hg0, hg9, hc0, hc5, htt])
      clear htt
      go_enter Tryd.func38, Tryd.ntmps38
      go_wp2_with fail
      go_quiet (fail)
      go_wp2_with (first | (go_at_call 40; ((with_reducible refine (HT.out _ ?hw).mono ?_); (case hw => (focus (repeat (first | exact Ext.refl _ | apply Ext.drewN | apply Ext.alloc)))); rw [hb1]; rintro e' w' ⟨rfl, n1, rfl⟩)) | (go_at_call 40; ((with_reducible refine (HE.out _ ?hw).mono ?_); (case hw => (focus (repeat (first | exact Ext.refl _ | apply Ext.drewN | apply Ext.alloc)))); rw [hb2]; rintro e' w' ⟨rfl, n2, rfl⟩)))
      go_ret
      exact ⟨ret_congr (by rw [HV.out]; rfl), by (focus (repeat (first | exact Ext.refl _ | apply Ext.drewN | apply Ext.alloc)))⟩
  rcases hk4 : (k == 4) with _ | _
  rotate_left
  · obtain rfl : k = 4 := by simpa using hk4
    rcases hcc : (c == 0) with _ | _
    · have hcc' : ¬ c = 0 := by simpa using hcc
      have HV := Lib.hid (show FM.may1 ⟨4, g, c, t, e⟩ = false by simp [FM.may1, hb1, hb2, hg0, hg9, hc0, hc5, hcc'])
      clear hcc'
      go_enter Tryd.func38, Tryd.ntmps38
      go_wp2_with fail
      go_quiet (fail)
      go_wp2_with (first | (go_at_call 40; ((with_reducible refine (HT.out _ ?hw).mono ?_); (case hw => (focus (repeat (first | exact Ext.refl _ | apply Ext.drewN | apply Ext.alloc)))); rw [hb1]; rintro e' w' ⟨rfl, n1, rfl⟩)) | (go_at_call 40; ((with_reducible refine (HE.out _ ?hw).mono ?_); (case hw => (focus (repeat (first | exact Ext.refl _ | apply Ext.drewN | apply Ext.alloc)))); rw [hb2]; rintro e' w' ⟨rfl, n2, rfl⟩)))
      go_ret
      exact ⟨ret_congr (by rw [HV.out]; rfl), by (focus (repeat (first | exact Ext.refl _ | apply Ext.drewN | apply Ext.alloc)))⟩
    · have hcc' : c = 0 := by simpa using hcc
      have HV := Lib.hid (show FM.may1 ⟨4, g, c, t, e⟩ = true by simp [FM.may1, hb1, hb2, hg0, hg9, hcc'])
      clear hcc'
      go_enter Tryd.func38, Tryd.ntmps38
      go_wp2_with fail
      go_quiet (fail)
      go_wp2_with (first | (go_at_call 40; ((with_reducible refine (HT.out _ ?hw).mono ?_); (case hw => (focus (repeat (first | exact Ext.refl _ | apply Ext.drewN | apply Ext.alloc)))); rw [hb1]; rintro e' w' ⟨rfl, n1, rfl⟩)) | (go_at_call 40; ((with_reducible refine (HE.out _ ?hw).mono ?_); (case hw => (focus (repeat (first | exact Ext.refl _ | apply Ext.drewN | apply Ext.alloc)))); rw [hb2]; rintro e' w' ⟨rfl, n2, rfl⟩)))
      go_ret
      exact ⟨ret_congr (by rw [HV.out]; rfl), by (focus (repeat (first | exact Ext.refl _ | apply Ext.drewN | apply Ext.alloc)))⟩
  have k0 : ¬ k = 0 := by simpa using hk0
  have k1 : ¬ k = 1 := by simpa using hk1
  have k2 : ¬ k = 2 := by simpa using hk2
  have k3 : ¬ k = 3 := by simpa using hk3
  have k4 : ¬ k = 4 := by simpa using hk4
  have HV := Lib.hid (show FM.may1 ⟨k, g, c, t, e⟩ = false by simp [FM.may1, hb1, hb2, hg0, hg9, hc0, hc5, k0, k1, k2, k3, k4])
  go_enter Tryd.func38, Tryd.ntmps38
  go_wp2_with fail
  go_quiet (fail)
  go_wp2_with (first | (go_at_call 40; ((with_reducible refine (HT.out _ ?hw).mono ?_); (case hw => (focus (repeat (first | exact Ext.refl _ | apply Ext.drewN | apply Ext.alloc)))); rw [hb1]; rintro e' w' ⟨rfl, n1, rfl⟩)) | (go_at_call 40; ((with_reducible refine (HE.out _ ?hw).mono ?_); (case hw => (focus (repeat (first | exact Ext.refl _ | apply Ext.drewN | apply Ext.alloc)))); rw [hb2]; rintro e' w' ⟨rfl, n2, rfl⟩)))
  go_ret
  exact ⟨ret_congr (by rw [HV.out]; rfl), by (focus (repeat (first | exact Ext.refl _ | apply Ext.drewN | apply Ext.alloc)))⟩
end Go.Proofs.YtfblkahjefdmaaaDoor
