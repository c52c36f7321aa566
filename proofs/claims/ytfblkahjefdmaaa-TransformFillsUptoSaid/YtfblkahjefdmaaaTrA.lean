/- Walks: may a text be; May of package format, of parts that are read by their cells alone. -/
import Derived.Test.YtfblkahjefdmaaaKn8
import Derived.Test.YtfblkahjefdmaaaPureC
namespace Go.Proofs.Ytfblkahjefdmaaa
open Go.RowKit

set_option maxHeartbeats 400000 in
theorem isnt_any (c : Int) (w : World) : Calls Try.prog 113 #[.int .i32 c] w (RetD (.bool (!RX.isSign c)) w) := by
  go_enter Try.func113, Try.ntmps113
  go_wp2_with fail
  refine (is_any _ _).mono ?_
  rintro e w' ⟨rfl, n, rfl⟩
  go_wp2_with fail
  go_ret
  exact ⟨rfl, _, rfl⟩
def IdxD (s : List Int) (w : World) (e : Ending) (w' : World) : Prop := ∃ n : Int, ∃ m : Nat, e = .returned (.int .i64 n) ∧ decide (0 ≤ n) = !s.all RX.isSign ∧ w' = w.drewN m
set_option maxHeartbeats 1000000 in
theorem indexf_any (s : List Int) (v : Value) (w : World) (hv : SlC w v s) : Calls Try.prog 59 #[v, .func (.func 113) #[] #[]] w (IdxD s w) := by
  obtain ⟨A, c, rfl, hlc, hcm, -⟩ := id hv
  have HV := Lib.hid hv
  clear hv
  go_enter Try.func59, Try.ntmps59
  go_wp2_with fail
  go_loopw [8] (fun i wr => ∃ k n : Nat, k ≤ s.length ∧ i = .int .i64 k ∧ wr = w.drewN n ∧ ∀ x ∈ s.take k, RX.isSign x = true) (fun i _ => s.length - (intOf i).toNat)
  case atStart => exact ⟨0, 0, Nat.zero_le _, rfl, rfl, by simp⟩
  case round =>
    obtain ⟨k, n, hk, rfl, rfl, hall⟩ := hrel
    have HALL := Lib.hid hall
    clear hall
    by_cases hlt : k < s.length
    · obtain ⟨b, o, rfl, hc⟩ := HV.out.at_ hlt
      obtain ⟨x, hx⟩ : ∃ x, s[k] = x := ⟨_, rfl⟩
      rw [hx] at hc
      have HX := Lib.hid hx
      clear hx
      rcases hz : (!RX.isSign x) with _ | _
      · go_wp2_with (go_at_call 113; refine (isnt_any _ _).mono ?_; rintro e w' ⟨rfl, n2, rfl⟩)
        go_roundw
        case rel =>
          refine ⟨k + 1, _, by omega, by go_num, rfl, fun y hy => ?_⟩
          rw [List.take_succ_eq_append_getElem hlt] at hy
          rcases List.mem_append.1 hy with hy | hy
          · exact HALL.out y hy
          · simp at hy; subst hy; rw [HX.out]; simpa using hz
        case measure => simp [intOf]; omega
      · have HF := Lib.hid (show decide ((0 : Int) ≤ (k : Int)) = !s.all RX.isSign by
          rw [decide_eq_true (by omega)]
          symm
          rw [Bool.not_eq_true']
          rw [Bool.eq_false_iff]
          intro h
          have := List.all_eq_true.1 h s[k] (List.getElem_mem hlt)
          rw [HX.out] at this
          rw [this] at hz; cases hz)
        go_wp2_with (go_at_call 113; refine (isnt_any _ _).mono ?_; rintro e w' ⟨rfl, n2, rfl⟩)
        go_ret
        exact ⟨_, _, rfl, HF.out, rfl⟩
    · have HF := Lib.hid (show decide ((0 : Int) ≤ (-1 : Int)) = !s.all RX.isSign by
        rw [decide_eq_false (by decide)]
        symm
        rw [Bool.not_eq_false', List.all_eq_true]
        intro x hx
        exact HALL.out x (by rw [List.take_of_length_le (by omega)]; exact hx))
      go_wp2_with fail
      go_ret
      exact ⟨_, _, rfl, HF.out, rfl⟩
set_option maxHeartbeats 1000000 in
theorem containsf_any (s : List Int) (v : Value) (w : World) (hv : SlC w v s) : Calls Try.prog 112 #[v, .func (.func 113) #[] #[]] w (RetD (.bool (!s.all RX.isSign)) w) := by
  have H := Lib.hid (indexf_any s v w hv)
  obtain ⟨A, c, rfl, hlc, hcm, -⟩ := hv
  go_enter Try.func112, Try.ntmps112
  go_wp2_with fail
  refine H.out.mono ?_
  rintro e w' ⟨n, m, rfl, hn, rfl⟩
  have HN := Lib.hid hn
  clear hn
  go_wp2_with fail
  go_ret
  exact ⟨by rw [← HN.out]; rfl, _, rfl⟩
set_option maxHeartbeats 1000000 in
theorem mays_any (s : List Int) (v : Value) (w : World) (hv : SlC w v s) : Calls Try.prog 81 #[v] w (RetD (.bool (s.all RX.isSign)) w) := by
  have H := Lib.hid (containsf_any s v w hv)
  obtain ⟨A, c, rfl, hlc, hcm, -⟩ := hv
  go_enter Try.func81, Try.ntmps81
  go_wp2_with fail
  refine H.out.mono ?_
  rintro e w' ⟨rfl, m, rfl⟩
  go_wp2_with fail
  go_ret
  exact ⟨by simp, _, rfl⟩

set_option maxRecDepth 100000 in
set_option maxHeartbeats 8000000 in
theorem may1_any (k g c : Int) (t e : List Int) (vt ve : Value) (w : World) (ht : SlC w vt t) (he : SlC w ve e) :
    Calls Try.prog 86 #[.agg #[.int .i64 k, .int .i64 g, .int .i64 c, vt, ve]] w (Ret (.bool (FM.may1 ⟨k, g, c, t, e⟩)) w) := by
  have HT := Lib.hid (fun W (hW : Ext w W) => mays_any t vt W (ht.ext hW))
  have HE := Lib.hid (fun W (hW : Ext w W) => mays_any e ve W (he.ext hW))
  obtain ⟨At, ct, rfl, hlt, hct, -⟩ := ht
  obtain ⟨Ae, ce, rfl, hle, hce, -⟩ := he
  rcases hb1 : t.all RX.isSign with _ | _
  · have hb2 := rfl (a := e.all RX.isSign)
    have HV := Lib.hid (show FM.may1 ⟨k, g, c, t, e⟩ = false by simp [FM.may1, hb1])
    go_enter Try.func86, Try.ntmps86
    go_wp2_with fail
    go_quiet (fail)
    go_wp2_with (first | (go_at_call 81; ((with_reducible refine (HT.out _ ?hw).mono ?_); (case hw => (focus (repeat (first | exact Ext.refl _ | apply Ext.drewN | apply Ext.alloc)))); rw [hb1]; rintro e' w' ⟨rfl, n1, rfl⟩)) | (go_at_call 81; ((with_reducible refine (HE.out _ ?hw).mono ?_); (case hw => (focus (repeat (first | exact Ext.refl _ | apply Ext.drewN | apply Ext.alloc)))); rw [hb2]; rintro e' w' ⟨rfl, n2, rfl⟩)))
    go_ret
    exact ⟨ret_congr (by rw [HV.out]; rfl), by (focus (repeat (first | exact Ext.refl _ | apply Ext.drewN | apply Ext.alloc)))⟩
  rcases hb2 : e.all RX.isSign with _ | _
  · have HV := Lib.hid (show FM.may1 ⟨k, g, c, t, e⟩ = false by simp [FM.may1, hb1, hb2])
    go_enter Try.func86, Try.ntmps86
    go_wp2_with fail
    go_quiet (fail)
    go_wp2_with (first | (go_at_call 81; ((with_reducible refine (HT.out _ ?hw).mono ?_); (case hw => (focus (repeat (first | exact Ext.refl _ | apply Ext.drewN | apply Ext.alloc)))); rw [hb1]; rintro e' w' ⟨rfl, n1, rfl⟩)) | (go_at_call 81; ((with_reducible refine (HE.out _ ?hw).mono ?_); (case hw => (focus (repeat (first | exact Ext.refl _ | apply Ext.drewN | apply Ext.alloc)))); rw [hb2]; rintro e' w' ⟨rfl, n2, rfl⟩)))
    go_ret
    exact ⟨ret_congr (by rw [HV.out]; rfl), by (focus (repeat (first | exact Ext.refl _ | apply Ext.drewN | apply Ext.alloc)))⟩
  rcases h3 : decide (g < 0) with _ | _
  rotate_left
  · have h3' := of_decide_eq_true h3
    have HV := Lib.hid (show FM.may1 ⟨k, g, c, t, e⟩ = false by simp [FM.may1, hb1, hb2]; omega)
    go_enter Try.func86, Try.ntmps86
    go_wp2_with fail
    go_quiet (fail)
    go_wp2_with (first | (go_at_call 81; ((with_reducible refine (HT.out _ ?hw).mono ?_); (case hw => (focus (repeat (first | exact Ext.refl _ | apply Ext.drewN | apply Ext.alloc)))); rw [hb1]; rintro e' w' ⟨rfl, n1, rfl⟩)) | (go_at_call 81; ((with_reducible refine (HE.out _ ?hw).mono ?_); (case hw => (focus (repeat (first | exact Ext.refl _ | apply Ext.drewN | apply Ext.alloc)))); rw [hb2]; rintro e' w' ⟨rfl, n2, rfl⟩)))
    go_ret
    exact ⟨ret_congr (by rw [HV.out]; rfl), by (focus (repeat (first | exact Ext.refl _ | apply Ext.drewN | apply Ext.alloc)))⟩
  have h3' := of_decide_eq_false h3
  rcases h4 : decide (99 < g) with _ | _
  rotate_left
  · have h4' := of_decide_eq_true h4
    have HV := Lib.hid (show FM.may1 ⟨k, g, c, t, e⟩ = false by simp [FM.may1, hb1, hb2]; omega)
    go_enter Try.func86, Try.ntmps86
    go_wp2_with fail
    go_quiet (fail)
    go_wp2_with (first | (go_at_call 81; ((with_reducible refine (HT.out _ ?hw).mono ?_); (case hw => (focus (repeat (first | exact Ext.refl _ | apply Ext.drewN | apply Ext.alloc)))); rw [hb1]; rintro e' w' ⟨rfl, n1, rfl⟩)) | (go_at_call 81; ((with_reducible refine (HE.out _ ?hw).mono ?_); (case hw => (focus (repeat (first | exact Ext.refl _ | apply Ext.drewN | apply Ext.alloc)))); rw [hb2]; rintro e' w' ⟨rfl, n2, rfl⟩)))
    go_ret
    exact ⟨ret_congr (by rw [HV.out]; rfl), by (focus (repeat (first | exact Ext.refl _ | apply Ext.drewN | apply Ext.alloc)))⟩
  have h4' := of_decide_eq_false h4
  rcases h5 : decide (c < 0) with _ | _
  rotate_left
  · have h5' := of_decide_eq_true h5
    have HV := Lib.hid (show FM.may1 ⟨k, g, c, t, e⟩ = false by simp [FM.may1, hb1, hb2]; omega)
    go_enter Try.func86, Try.ntmps86
    go_wp2_with fail
    go_quiet (fail)
    go_wp2_with (first | (go_at_call 81; ((with_reducible refine (HT.out _ ?hw).mono ?_); (case hw => (focus (repeat (first | exact Ext.refl _ | apply Ext.drewN | apply Ext.alloc)))); rw [hb1]; rintro e' w' ⟨rfl, n1, rfl⟩)) | (go_at_call 81; ((with_reducible refine (HE.out _ ?hw).mono ?_); (case hw => (focus (repeat (first | exact Ext.refl _ | apply Ext.drewN | apply Ext.alloc)))); rw [hb2]; rintro e' w' ⟨rfl, n2, rfl⟩)))
    go_ret
    exact ⟨ret_congr (by rw [HV.out]; rfl), by (focus (repeat (first | exact Ext.refl _ | apply Ext.drewN | apply Ext.alloc)))⟩
  have h5' := of_decide_eq_false h5
  rcases h6 : decide (5 < c) with _ | _
  rotate_left
  · have h6' := of_decide_eq_true h6
    have HV := Lib.hid (show FM.may1 ⟨k, g, c, t, e⟩ = false by simp [FM.may1, hb1, hb2]; omega)
    go_enter Try.func86, Try.ntmps86
    go_wp2_with fail
    go_quiet (fail)
    go_wp2_with (first | (go_at_call 81; ((with_reducible refine (HT.out _ ?hw).mono ?_); (case hw => (focus (repeat (first | exact Ext.refl _ | apply Ext.drewN | apply Ext.alloc)))); rw [hb1]; rintro e' w' ⟨rfl, n1, rfl⟩)) | (go_at_call 81; ((with_reducible refine (HE.out _ ?hw).mono ?_); (case hw => (focus (repeat (first | exact Ext.refl _ | apply Ext.drewN | apply Ext.alloc)))); rw [hb2]; rintro e' w' ⟨rfl, n2, rfl⟩)))
    go_ret
    exact ⟨ret_congr (by rw [HV.out]; rfl), by (focus (repeat (first | exact Ext.refl _ | apply Ext.drewN | apply Ext.alloc)))⟩
  have h6' := of_decide_eq_false h6
  have hg0 : 0 ≤ g := by omega
  have hg9 : g ≤ 99 := by omega
  have hc0 : 0 ≤ c := by omega
  have hc5 : c ≤ 5 := by omega
  rcases hk0 : (k == 0) with _ | _
  rotate_left
  · obtain rfl : k = 0 := by simpa using hk0
    by_cases htt : t = []
    · have htt' : decide ((0 : Int) < (t.length : Int)) = false := by simp [htt]
      have htt2 : decide (0 < t.length) = false := by simp [htt]
      have HV := Lib.hid (show FM.may1 ⟨0, g, c, t, e⟩ = false by simp [FM.may1, hb2, hg0, hg9, hc0, hc5, htt])
      clear htt
      go_enter Try.func86, Try.ntmps86
      go_wp2_with fail
      go_quiet (fail)
      go_wp2_with (first | (go_at_call 81; ((with_reducible refine (HT.out _ ?hw).mono ?_); (case hw => (focus (repeat (first | exact Ext.refl _ | apply Ext.drewN | apply Ext.alloc)))); rw [hb1]; rintro e' w' ⟨rfl, n1, rfl⟩)) | (go_at_call 81; ((with_reducible refine (HE.out _ ?hw).mono ?_); (case hw => (focus (repeat (first | exact Ext.refl _ | apply Ext.drewN | apply Ext.alloc)))); rw [hb2]; rintro e' w' ⟨rfl, n2, rfl⟩)))
      go_ret
      exact ⟨ret_congr (by rw [HV.out]; rfl), by (focus (repeat (first | exact Ext.refl _ | apply Ext.drewN | apply Ext.alloc)))⟩
    · have htt' : decide ((0 : Int) < (t.length : Int)) = true := by cases t with | nil => exact absurd rfl htt | cons a b => simp
      have htt2 : decide (0 < t.length) = true := by cases t with | nil => exact absurd rfl htt | cons a b => simp
      by_cases hee : e = []
      · have hee' : decide ((0 : Int) < (e.length : Int)) = false := by simp [hee]
        have hee2 : decide (0 < e.length) = false := by simp [hee]
        rcases hgg : (g == 0) with _ | _
        · have hgg' : ¬ g = 0 := by simpa using hgg
          have HV := Lib.hid (show FM.may1 ⟨0, g, c, t, e⟩ = false by simp [FM.may1, hb1, hg0, hg9, hc0, hc5, hee, hgg'])
          clear htt hee hgg'
          go_enter Try.func86, Try.ntmps86
          go_wp2_with fail
          go_quiet (fail)
          go_wp2_with (first | (go_at_call 81; ((with_reducible refine (HT.out _ ?hw).mono ?_); (case hw => (focus (repeat (first | exact Ext.refl _ | apply Ext.drewN | apply Ext.alloc)))); rw [hb1]; rintro e' w' ⟨rfl, n1, rfl⟩)) | (go_at_call 81; ((with_reducible refine (HE.out _ ?hw).mono ?_); (case hw => (focus (repeat (first | exact Ext.refl _ | apply Ext.drewN | apply Ext.alloc)))); rw [hb2]; rintro e' w' ⟨rfl, n2, rfl⟩)))
          go_ret
          exact ⟨ret_congr (by rw [HV.out]; rfl), by (focus (repeat (first | exact Ext.refl _ | apply Ext.drewN | apply Ext.alloc)))⟩
        · have hgg' : g = 0 := by simpa using hgg
          rcases hcc : (c == 0) with _ | _
          · have hcc' : ¬ c = 0 := by simpa using hcc
            have HV := Lib.hid (show FM.may1 ⟨0, g, c, t, e⟩ = false by simp [FM.may1, hb1, hc0, hc5, hee, hgg', hcc'])
            clear htt hee hgg' hcc'
            go_enter Try.func86, Try.ntmps86
            go_wp2_with fail
            go_quiet (fail)
            go_wp2_with (first | (go_at_call 81; ((with_reducible refine (HT.out _ ?hw).mono ?_); (case hw => (focus (repeat (first | exact Ext.refl _ | apply Ext.drewN | apply Ext.alloc)))); rw [hb1]; rintro e' w' ⟨rfl, n1, rfl⟩)) | (go_at_call 81; ((with_reducible refine (HE.out _ ?hw).mono ?_); (case hw => (focus (repeat (first | exact Ext.refl _ | apply Ext.drewN | apply Ext.alloc)))); rw [hb2]; rintro e' w' ⟨rfl, n2, rfl⟩)))
            go_ret
            exact ⟨ret_congr (by rw [HV.out]; rfl), by (focus (repeat (first | exact Ext.refl _ | apply Ext.drewN | apply Ext.alloc)))⟩
          · have hcc' : c = 0 := by simpa using hcc
            have HV := Lib.hid (show FM.may1 ⟨0, g, c, t, e⟩ = true by simp [FM.may1, hb1, htt, hee, hgg', hcc'])
            clear htt hee hgg' hcc'
            go_enter Try.func86, Try.ntmps86
            go_wp2_with fail
            go_quiet (fail)
            go_wp2_with (first | (go_at_call 81; ((with_reducible refine (HT.out _ ?hw).mono ?_); (case hw => (focus (repeat (first | exact Ext.refl _ | apply Ext.drewN | apply Ext.alloc)))); rw [hb1]; rintro e' w' ⟨rfl, n1, rfl⟩)) | (go_at_call 81; ((with_reducible refine (HE.out _ ?hw).mono ?_); (case hw => (focus (repeat (first | exact Ext.refl _ | apply Ext.drewN | apply Ext.alloc)))); rw [hb2]; rintro e' w' ⟨rfl, n2, rfl⟩)))
            go_ret
            exact ⟨ret_congr (by rw [HV.out]; rfl), by (focus (repeat (first | exact Ext.refl _ | apply Ext.drewN | apply Ext.alloc)))⟩
      · have hee' : decide ((0 : Int) < (e.length : Int)) = true := by cases e with | nil => exact absurd rfl hee | cons a b => simp
        have hee2 : decide (0 < e.length) = true := by cases e with | nil => exact absurd rfl hee | cons a b => simp
        have HV := Lib.hid (show FM.may1 ⟨0, g, c, t, e⟩ = false by simp [FM.may1, hb1, hb2, hg0, hg9, hc0, hc5, htt, hee])
        clear htt hee
        go_enter Try.func86, Try.ntmps86
        go_wp2_with fail
        go_quiet (fail)
        go_wp2_with (first | (go_at_call 81; ((with_reducible refine (HT.out _ ?hw).mono ?_); (case hw => (focus (repeat (first | exact Ext.refl _ | apply Ext.drewN | apply Ext.alloc)))); rw [hb1]; rintro e' w' ⟨rfl, n1, rfl⟩)) | (go_at_call 81; ((with_reducible refine (HE.out _ ?hw).mono ?_); (case hw => (focus (repeat (first | exact Ext.refl _ | apply Ext.drewN | apply Ext.alloc)))); rw [hb2]; rintro e' w' ⟨rfl, n2, rfl⟩)))
        go_ret
        exact ⟨ret_congr (by rw [HV.out]; rfl), by (focus (repeat (first | exact Ext.refl _ | apply Ext.drewN | apply Ext.alloc)))⟩
  rcases hk1 : (k == 1) with _ | _
  rotate_left
  · obtain rfl : k = 1 := by simpa using hk1
    by_cases htt : t = []
    · have htt' : decide ((0 : Int) < (t.length : Int)) = false := by simp [htt]
      have htt2 : decide (0 < t.length) = false := by simp [htt]
      by_cases hee : e = []
      · have hee' : decide ((0 : Int) < (e.length : Int)) = false := by simp [hee]
        have hee2 : decide (0 < e.length) = false := by simp [hee]
        have HV := Lib.hid (show FM.may1 ⟨1, g, c, t, e⟩ = true by simp [FM.may1, hg0, hg9, hc0, hc5, htt, hee])
        clear htt hee
        go_enter Try.func86, Try.ntmps86
        go_wp2_with fail
        go_quiet (fail)
        go_wp2_with (first | (go_at_call 81; ((with_reducible refine (HT.out _ ?hw).mono ?_); (case hw => (focus (repeat (first | exact Ext.refl _ | apply Ext.drewN | apply Ext.alloc)))); rw [hb1]; rintro e' w' ⟨rfl, n1, rfl⟩)) | (go_at_call 81; ((with_reducible refine (HE.out _ ?hw).mono ?_); (case hw => (focus (repeat (first | exact Ext.refl _ | apply Ext.drewN | apply Ext.alloc)))); rw [hb2]; rintro e' w' ⟨rfl, n2, rfl⟩)))
        go_ret
        exact ⟨ret_congr (by rw [HV.out]; rfl), by (focus (repeat (first | exact Ext.refl _ | apply Ext.drewN | apply Ext.alloc)))⟩
      · have hee' : decide ((0 : Int) < (e.length : Int)) = true := by cases e with | nil => exact absurd rfl hee | cons a b => simp
        have hee2 : decide (0 < e.length) = true := by cases e with | nil => exact absurd rfl hee | cons a b => simp
        have HV := Lib.hid (show FM.may1 ⟨1, g, c, t, e⟩ = false by simp [FM.may1, hb2, hg0, hg9, hc0, hc5, htt, hee])
        clear htt hee
        go_enter Try.func86, Try.ntmps86
        go_wp2_with fail
        go_quiet (fail)
        go_wp2_with (first | (go_at_call 81; ((with_reducible refine (HT.out _ ?hw).mono ?_); (case hw => (focus (repeat (first | exact Ext.refl _ | apply Ext.drewN | apply Ext.alloc)))); rw [hb1]; rintro e' w' ⟨rfl, n1, rfl⟩)) | (go_at_call 81; ((with_reducible refine (HE.out _ ?hw).mono ?_); (case hw => (focus (repeat (first | exact Ext.refl _ | apply Ext.drewN | apply Ext.alloc)))); rw [hb2]; rintro e' w' ⟨rfl, n2, rfl⟩)))
        go_ret
        exact ⟨ret_congr (by rw [HV.out]; rfl), by (focus (repeat (first | exact Ext.refl _ | apply Ext.drewN | apply Ext.alloc)))⟩
    · have htt' : decide ((0 : Int) < (t.length : Int)) = true := by cases t with | nil => exact absurd rfl htt | cons a b => simp
      have htt2 : decide (0 < t.length) = true := by cases t with | nil => exact absurd rfl htt | cons a b => simp
      have HV := Lib.hid (show FM.may1 ⟨1, g, c, t, e⟩ = false by simp [FM.may1, hb1, hb2, hg0, hg9, hc0, hc5, htt])
      clear htt
      go_enter Try.func86, Try.ntmps86
      go_wp2_with fail
      go_quiet (fail)
      go_wp2_with (first | (go_at_call 81; ((with_reducible refine (HT.out _ ?hw).mono ?_); (case hw => (focus (repeat (first | exact Ext.refl _ | apply Ext.drewN | apply Ext.alloc)))); rw [hb1]; rintro e' w' ⟨rfl, n1, rfl⟩)) | (go_at_call 81; ((with_reducible refine (HE.out _ ?hw).mono ?_); (case hw => (focus (repeat (first | exact Ext.refl _ | apply Ext.drewN | apply Ext.alloc)))); rw [hb2]; rintro e' w' ⟨rfl, n2, rfl⟩)))
      go_ret
      exact ⟨ret_congr (by rw [HV.out]; rfl), by (focus (repeat (first | exact Ext.refl _ | apply Ext.drewN | apply Ext.alloc)))⟩
  rcases hk2 : (k == 2) with _ | _
  rotate_left
  · obtain rfl : k = 2 := by simpa using hk2
    by_cases hee : e = []
    · have hee' : decide ((0 : Int) < (e.length : Int)) = false := by simp [hee]
      have hee2 : decide (0 < e.length) = false := by simp [hee]
      rcases hcc : (c == 0) with _ | _
      · have hcc' : ¬ c = 0 := by simpa using hcc
        have HV := Lib.hid (show FM.may1 ⟨2, g, c, t, e⟩ = false by simp [FM.may1, hb1, hg0, hg9, hc0, hc5, hee, hcc'])
        clear hee hcc'
        go_enter Try.func86, Try.ntmps86
        go_wp2_with fail
        go_quiet (fail)
        go_wp2_with (first | (go_at_call 81; ((with_reducible refine (HT.out _ ?hw).mono ?_); (case hw => (focus (repeat (first | exact Ext.refl _ | apply Ext.drewN | apply Ext.alloc)))); rw [hb1]; rintro e' w' ⟨rfl, n1, rfl⟩)) | (go_at_call 81; ((with_reducible refine (HE.out _ ?hw).mono ?_); (case hw => (focus (repeat (first | exact Ext.refl _ | apply Ext.drewN | apply Ext.alloc)))); rw [hb2]; rintro e' w' ⟨rfl, n2, rfl⟩)))
        go_ret
        exact ⟨ret_congr (by rw [HV.out]; rfl), by (focus (repeat (first | exact Ext.refl _ | apply Ext.drewN | apply Ext.alloc)))⟩
      · have hcc' : c = 0 := by simpa using hcc
        have HV := Lib.hid (show FM.may1 ⟨2, g, c, t, e⟩ = true by simp [FM.may1, hb1, hg0, hg9, hee, hcc'])
        clear hee hcc'
        go_enter Try.func86, Try.ntmps86
        go_wp2_with fail
        go_quiet (fail)
        go_wp2_with (first | (go_at_call 81; ((with_reducible refine (HT.out _ ?hw).mono ?_); (case hw => (focus (repeat (first | exact Ext.refl _ | apply Ext.drewN | apply Ext.alloc)))); rw [hb1]; rintro e' w' ⟨rfl, n1, rfl⟩)) | (go_at_call 81; ((with_reducible refine (HE.out _ ?hw).mono ?_); (case hw => (focus (repeat (first | exact Ext.refl _ | apply Ext.drewN | apply Ext.alloc)))); rw [hb2]; rintro e' w' ⟨rfl, n2, rfl⟩)))
        go_ret
        exact ⟨ret_congr (by rw [HV.out]; rfl), by (focus (repeat (first | exact Ext.refl _ | apply Ext.drewN | apply Ext.alloc)))⟩
    · have hee' : decide ((0 : Int) < (e.length : Int)) = true := by cases e with | nil => exact absurd rfl hee | cons a b => simp
      have hee2 : decide (0 < e.length) = true := by cases e with | nil => exact absurd rfl hee | cons a b => simp
      have HV := Lib.hid (show FM.may1 ⟨2, g, c, t, e⟩ = false by simp [FM.may1, hb1, hb2, hg0, hg9, hc0, hc5, hee])
      clear hee
      go_enter Try.func86, Try.ntmps86
      go_wp2_with fail
      go_quiet (fail)
      go_wp2_with (first | (go_at_call 81; ((with_reducible refine (HT.out _ ?hw).mono ?_); (case hw => (focus (repeat (first | exact Ext.refl _ | apply Ext.drewN | apply Ext.alloc)))); rw [hb1]; rintro e' w' ⟨rfl, n1, rfl⟩)) | (go_at_call 81; ((with_reducible refine (HE.out _ ?hw).mono ?_); (case hw => (focus (repeat (first | exact Ext.refl _ | apply Ext.drewN | apply Ext.alloc)))); rw [hb2]; rintro e' w' ⟨rfl, n2, rfl⟩)))
      go_ret
      exact ⟨ret_congr (by rw [HV.out]; rfl), by (focus (repeat (first | exact Ext.refl _ | apply Ext.drewN | apply Ext.alloc)))⟩
  rcases hk3 : (k == 3) with _ | _
  rotate_left
  · obtain rfl : k = 3 := by simpa using hk3
    by_cases htt : t = []
    · have htt' : decide ((0 : Int) < (t.length : Int)) = false := by simp [htt]
      have htt2 : decide (0 < t.length) = false := by simp [htt]
      rcases hcc : (c == 0) with _ | _
      · have hcc' : ¬ c = 0 := by simpa using hcc
        have HV := Lib.hid (show FM.may1 ⟨3, g, c, t, e⟩ = false by simp [FM.may1, hb2, hg0, hg9, hc0, hc5, htt, hcc'])
        clear htt hcc'
        go_enter Try.func86, Try.ntmps86
        go_wp2_with fail
        go_quiet (fail)
        go_wp2_with (first | (go_at_call 81; ((with_reducible refine (HT.out _ ?hw).mono ?_); (case hw => (focus (repeat (first | exact Ext.refl _ | apply Ext.drewN | apply Ext.alloc)))); rw [hb1]; rintro e' w' ⟨rfl, n1, rfl⟩)) | (go_at_call 81; ((with_reducible refine (HE.out _ ?hw).mono ?_); (case hw => (focus (repeat (first | exact Ext.refl _ | apply Ext.drewN | apply Ext.alloc)))); rw [hb2]; rintro e' w' ⟨rfl, n2, rfl⟩)))
        go_ret
        exact ⟨ret_congr (by rw [HV.out]; rfl), by (focus (repeat (first | exact Ext.refl _ | apply Ext.drewN | apply Ext.alloc)))⟩
      · have hcc' : c = 0 := by simpa using hcc
        have HV := Lib.hid (show FM.may1 ⟨3, g, c, t, e⟩ = true by simp [FM.may1, hb2, hg0, hg9, htt, hcc'])
        clear htt hcc'
        go_enter Try.func86, Try.ntmps86
        go_wp2_with fail
        go_quiet (fail)
        go_wp2_with (first | (go_at_call 81; ((with_reducible refine (HT.out _ ?hw).mono ?_); (case hw => (focus (repeat (first | exact Ext.refl _ | apply Ext.drewN | apply Ext.alloc)))); rw [hb1]; rintro e' w' ⟨rfl, n1, rfl⟩)) | (go_at_call 81; ((with_reducible refine (HE.out _ ?hw).mono ?_); (case hw => (focus (repeat (first | exact Ext.refl _ | apply Ext.drewN | apply Ext.alloc)))); rw [hb2]; rintro e' w' ⟨rfl, n2, rfl⟩)))
        go_ret
        exact ⟨ret_congr (by rw [HV.out]; rfl), by (focus (repeat (first | exact Ext.refl _ | apply Ext.drewN | apply Ext.alloc)))⟩
    · have htt' : decide ((0 : Int) < (t.length : Int)) = true := by cases t with | nil => exact absurd rfl htt | cons a b => simp
      have htt2 : decide (0 < t.length) = true := by cases t with | nil => exact absurd rfl htt | cons a b => simp
      have HV := Lib.hid (show FM.may1 ⟨3, g, c, t, e⟩ = false by simp [FM.may1, hb1, hb2, hg0, hg9, hc0, hc5, htt])
      clear htt
      go_enter Try.func86, Try.ntmps86
      go_wp2_with fail
      go_quiet (fail)
      go_wp2_with (first | (go_at_call 81; ((with_reducible refine (HT.out _ ?hw).mono ?_); (case hw => (focus (repeat (first | exact Ext.refl _ | apply Ext.drewN | apply Ext.alloc)))); rw [hb1]; rintro e' w' ⟨rfl, n1, rfl⟩)) | (go_at_call 81; ((with_reducible refine (HE.out _ ?hw).mono ?_); (case hw => (focus (repeat (first | exact Ext.refl _ | apply Ext.drewN | apply Ext.alloc)))); rw [hb2]; rintro e' w' ⟨rfl, n2, rfl⟩)))
      go_ret
      exact ⟨ret_congr (by rw [HV.out]; rfl), by (focus (repeat (first | exact Ext.refl _ | apply Ext.drewN | apply Ext.alloc)))⟩
  rcases hk4 : (k == 4) with _ | _
  rotate_left
  · obtain rfl : k = 4 := by simpa using hk4
    rcases hcc : (c == 0) with _ | _
    · have hcc' : ¬ c = 0 := by simpa using hcc
      have HV := Lib.hid (show FM.may1 ⟨4, g, c, t, e⟩ = false by simp [FM.may1, hb1, hb2, hg0, hg9, hc0, hc5, hcc'])
      clear hcc'
      go_enter Try.func86, Try.ntmps86
      go_wp2_with fail
      go_quiet (fail)
      go_wp2_with (first | (go_at_call 81; ((with_reducible refine (HT.out _ ?hw).mono ?_); (case hw => (focus (repeat (first | exact Ext.refl _ | apply Ext.drewN | apply Ext.alloc)))); rw [hb1]; rintro e' w' ⟨rfl, n1, rfl⟩)) | (go_at_call 81; ((with_reducible refine (HE.out _ ?hw).mono ?_); (case hw => (focus (repeat (first | exact Ext.refl _ | apply Ext.drewN | apply Ext.alloc)))); rw [hb2]; rintro e' w' ⟨rfl, n2, rfl⟩)))
      go_ret
      exact ⟨ret_congr (by rw [HV.out]; rfl), by (focus (repeat (first | exact Ext.refl _ | apply Ext.drewN | apply Ext.alloc)))⟩
    · have hcc' : c = 0 := by simpa using hcc
      have HV := Lib.hid (show FM.may1 ⟨4, g, c, t, e⟩ = true by simp [FM.may1, hb1, hb2, hg0, hg9, hcc'])
      clear hcc'
      go_enter Try.func86, Try.ntmps86
      go_wp2_with fail
      go_quiet (fail)
      go_wp2_with (first | (go_at_call 81; ((with_reducible refine (HT.out _ ?hw).mono ?_); (case hw => (focus (repeat (first | exact Ext.refl _ | apply Ext.drewN | apply Ext.alloc)))); rw [hb1]; rintro e' w' ⟨rfl, n1, rfl⟩)) | (go_at_call 81; ((with_reducible refine (HE.out _ ?hw).mono ?_); (case hw => (focus (repeat (first | exact Ext.refl _ | apply Ext.drewN | apply Ext.alloc)))); rw [hb2]; rintro e' w' ⟨rfl, n2, rfl⟩)))
      go_ret
      exact ⟨ret_congr (by rw [HV.out]; rfl), by (focus (repeat (first | exact Ext.refl _ | apply Ext.drewN | apply Ext.alloc)))⟩
  have k0 : ¬ k = 0 := by simpa using hk0
  have k1 : ¬ k = 1 := by simpa using hk1
  have k2 : ¬ k = 2 := by simpa using hk2
  have k3 : ¬ k = 3 := by simpa using hk3
  have k4 : ¬ k = 4 := by simpa using hk4
  have HV := Lib.hid (show FM.may1 ⟨k, g, c, t, e⟩ = false by simp [FM.may1, hb1, hb2, hg0, hg9, hc0, hc5, k0, k1, k2, k3, k4])
  go_enter Try.func86, Try.ntmps86
  go_wp2_with fail
  go_quiet (fail)
  go_wp2_with (first | (go_at_call 81; ((with_reducible refine (HT.out _ ?hw).mono ?_); (case hw => (focus (repeat (first | exact Ext.refl _ | apply Ext.drewN | apply Ext.alloc)))); rw [hb1]; rintro e' w' ⟨rfl, n1, rfl⟩)) | (go_at_call 81; ((with_reducible refine (HE.out _ ?hw).mono ?_); (case hw => (focus (repeat (first | exact Ext.refl _ | apply Ext.drewN | apply Ext.alloc)))); rw [hb2]; rintro e' w' ⟨rfl, n2, rfl⟩)))
  go_ret
  exact ⟨ret_congr (by rw [HV.out]; rfl), by (focus (repeat (first | exact Ext.refl _ | apply Ext.drewN | apply Ext.alloc)))⟩
namespace FM
theorem last0_take {l : List Form} {k : Nat} (h : k + 1 ≤ l.length) : last0 false (l.take (k + 1)) = (l[k].kind == 0) := by
  rw [List.take_succ_eq_append_getElem (by omega), last0_append]
theorem may_split (l : List Form) (k : Nat) : may l = (mayR false (l.take k) && mayR (last0 false (l.take k)) (l.drop k)) := by
  unfold may
  rw [← mayR_append, List.take_append_drop]
theorem mayR_take {l : List Form} {k : Nat} (h : k < l.length) (h1 : mayR false (l.take k) = true) (h2 : may1 l[k] = true) (h3 : (last0 false (l.take k) && l[k].kind == 0) = false) : mayR false (l.take (k + 1)) = true := by
  rw [List.take_succ_eq_append_getElem h, mayR_append, h1]
  simp [mayR, h2, h3]
theorem may_no {l : List Form} {k : Nat} (h : k < l.length) (h2 : may1 l[k] = false ∨ (last0 false (l.take k) && l[k].kind == 0) = true) : may l = false := by
  rw [may_split l k, List.drop_eq_getElem_cons h]
  rcases h2 with h2 | h2
  · simp [mayR, h2]
  · simp [mayR, h2]
end FM

/-- The cells of a part whose texts are read by their cells alone. -/
def CFC (w : World) (cs : List Value) (f : FM.Form) : Prop :=
  ∃ vt ve, cs = [.int .i64 f.kind, .int .i64 f.group, .int .i64 f.cas, vt, ve] ∧ SlC w vt f.text ∧ SlC w ve f.els
theorem CFC.ext {w w' : World} {cs : List Value} {f : FM.Form} (h : CFC w cs f) (hx : Ext w w') : CFC w' cs f := by
  obtain ⟨vt, ve, h1, h2, h3⟩ := h
  exact ⟨vt, ve, h1, h2.ext hx, h3.ext hx⟩
theorem CFC.slc2 {w : World} {cs : List Value} {f : FM.Form} (h : CFC w cs f) : ∃ A c A' c', cs = [.int .i64 f.kind, .int .i64 f.group, .int .i64 f.cas, .slice A f.text.length c, .slice A' f.els.length c'] ∧ SlC w (.slice A f.text.length c) f.text ∧ SlC w (.slice A' f.els.length c') f.els := by
  obtain ⟨vt, ve, h1, h2, h3⟩ := h
  obtain ⟨A, c, rfl, -⟩ := id h2
  obtain ⟨A', c', rfl, -⟩ := id h3
  exact ⟨A, c, A', c', h1, h2, h3⟩
/-- Parts, read by their cells alone. -/
def SlF (w : World) (v : Value) (l : List FM.Form) : Prop :=
  SlR 5 (fun w b o f => ∃ cs, CFC w cs f ∧ ∀ (i : Nat) (u : Value), cs[i]? = some u → w.cell? ⟨b, o + i, none⟩ = some u) w v l
theorem SlF.ext {w w' : World} {v : Value} {l : List FM.Form} (h : SlF w v l) (hx : Ext w w') : SlF w' v l :=
  h.mono fun _ _ _ ⟨cs, h1, h2⟩ => ⟨cs, h1.ext hx, fun i u hu => hx.cell (h2 i u hu)⟩
theorem SlF.form2 {w : World} {v : Value} {l : List FM.Form} (h : SlF w v l) : ∃ A c, v = .slice A l.length c ∧ l.length ≤ c ∧ c ≤ 9223372036854775807 := by
  obtain ⟨A, c, hv, h1, h2, -⟩ := h
  exact ⟨A, c, hv, h1, h2⟩
theorem SlF.atF {w : World} {A : Option Addr} {n c : Nat} {l : List FM.Form} (h : SlF w (.slice A n c) l) {k : Nat} (hk : k < l.length) :
    ∃ g o cs, A = some ⟨g, o, none⟩ ∧ CFC w cs l[k] ∧ ∀ (i : Nat) (u : Value), cs[i]? = some u → w.cell? ⟨g, o + k * 5 + i, none⟩ = some u := by
  obtain ⟨b, o, hA, cs, h1, h2⟩ := SlR.at_ h (List.getElem?_eq_getElem hk)
  exact ⟨b, o, cs, hA, h1, h2⟩
set_option maxRecDepth 100000 in
set_option maxHeartbeats 2000000 in
theorem may2_any (l : List FM.Form) (v : Value) (w : World) (hv : SlF w v l) : Calls Try.prog 52 #[v] w (Ret (.bool (FM.may l)) w) := by
  obtain ⟨A, ca, rfl, hlc, hcm⟩ := hv.form2
  have HV := Lib.hid hv
  clear hv
  go_enter Try.func52, Try.ntmps52
  go_wp2_with fail
  go_loopw [7] (fun i wr => ∃ k : Nat, k ≤ l.length ∧ i = .int .i64 (k : Int) ∧ Ext w wr ∧ FM.mayR false (l.take k) = true) (fun i _ => l.length - (intOf i).toNat)
  case atStart => exact ⟨0, Nat.zero_le _, rfl, Ext.refl w, rfl⟩
  case round =>
    obtain ⟨k, hk, rfl, hE, hm⟩ := hrel
    have HE := Lib.hid hE
    have HM := Lib.hid hm
    clear hm
    by_cases hlt : k < l.length
    · obtain ⟨g, o, cs, rfl, hcf, hcell⟩ := (HV.out.ext hE).atF hlt
      have HSTEP := Lib.hid (fun (h2 : FM.may1 l[k] = true) (h3 : (FM.last0 false (l.take k) && l[k].kind == 0) = false) => FM.mayR_take hlt HM.out h2 h3)
      have HNO := Lib.hid (fun (h2 : FM.may1 l[k] = false ∨ (FM.last0 false (l.take k) && l[k].kind == 0) = true) => FM.may_no hlt h2)
      have hprev : ∀ j, k = j + 1 → ∃ x : Int, (l[j]?).map FM.Form.kind = some x ∧ wr.cell? ⟨g, o + j * 5, none⟩ = some (.int .i64 x) ∧ FM.last0 false (l.take k) = (x == 0) := by
        intro j hj
        subst hj
        have hjl : j < l.length := by omega
        obtain ⟨g', o', cs', he, hcf', hcell'⟩ := (HV.out.ext hE).atF hjl
        injection he with he
        injection he with he1 he2
        subst he1 he2
        obtain ⟨A1, c1, A2, c2, rfl, -⟩ := hcf'.slc2
        exact ⟨l[j].kind, by rw [List.getElem?_eq_getElem hjl]; rfl, by have := hcell' 0 _ rfl; rwa [Nat.add_zero] at this, FM.last0_take (by omega)⟩
      generalize l[k] = f at hcf HSTEP HNO
      obtain ⟨A1, c1, A2, c2, rfl, ht, he⟩ := hcf.slc2
      have d0 := hcell 0 _ rfl
      have d1 := hcell 1 _ rfl
      have d2 := hcell 2 _ rfl
      have d3 := hcell 3 _ rfl
      have d4 := hcell 4 _ rfl
      rw [Nat.add_zero] at d0
      have H1 := Lib.hid (fun W (hW : Ext wr W) => may1_any f.kind f.group f.cas f.text f.els _ _ W (ht.ext hW) (he.ext hW))
      have hbl := World.block_lt_of_cell? _ _ d0
      clear hcell hcf ht he hE
      rcases h1 : FM.may1 f with _ | _
      · have HF := Lib.hid (show FM.may l = false from HNO.out (.inl h1))
        have H1' := Lib.hid (show FM.may1 ⟨f.kind, f.group, f.cas, f.text, f.els⟩ = false from h1)
        clear h1 hprev
        go_wp2_with (go_at_call 86; go_loud (refine (H1.out _ ((Ext.refl wr).alloc _)).mono ?_; rw [H1'.out]; rintro e w2 ⟨rfl, hx⟩))
        go_ret
        exact ⟨by rw [HF.out]; rfl, (HE.out.alloc _).trans hx⟩
      · have H1' := Lib.hid (show FM.may1 ⟨f.kind, f.group, f.cas, f.text, f.els⟩ = true from h1)
        have H1T := Lib.hid h1
        clear h1
        by_cases hk0 : k = 0
        · subst hk0
          simp only [Nat.zero_mul, Nat.add_zero] at d0 d1 d2 d3 d4
          have HS := Lib.hid (show FM.mayR false (l.take (0 + 1)) = true from HSTEP.out H1T.out rfl)
          clear hprev
          go_wp2_with (go_at_call 86; go_loud (refine (H1.out _ ((Ext.refl wr).alloc _)).mono ?_; rw [H1'.out]; rintro e w2 ⟨rfl, hx⟩))
          go_roundw
          case rel => exact ⟨1, by omega, by go_num, (HE.out.alloc _).trans hx, HS.out⟩
          case measure => simp [intOf]; omega
        · obtain ⟨j, rfl⟩ : ∃ j, k = j + 1 := ⟨k - 1, by omega⟩
          obtain ⟨x, -, hcx, hl0⟩ := hprev j rfl
          have HL0 := Lib.hid hl0
          clear hprev hk0 hl0
          have hj1 : (0 : Int) < (j : Int) + 1 := by omega
          rcases hfk : (f.kind == 0) with _ | _
          · have HS := Lib.hid (HSTEP.out H1T.out (by rw [hfk, Bool.and_false]))
            go_wp2_with (go_at_call 86; go_loud (refine (H1.out _ ((Ext.refl wr).alloc _)).mono ?_; rw [H1'.out]; rintro e w2 ⟨rfl, hx⟩; have hbx := hx.heap (heap_alloc_new wr _); have p0 := cell_of_row w2 wr.heap.size 0 _ _ _ hbx; clear hbx))
            go_roundw
            case rel => exact ⟨j + 1 + 1, by omega, by go_num, (HE.out.alloc _).trans hx, HS.out⟩
            case measure => simp [intOf]; omega
          · rcases hxk : (x == 0) with _ | _
            · have HS := Lib.hid (HSTEP.out H1T.out (by rw [HL0.out, hxk]; rfl))
              go_wp2_with (go_at_call 86; go_loud (refine (H1.out _ ((Ext.refl wr).alloc _)).mono ?_; rw [H1'.out]; rintro e w2 ⟨rfl, hx⟩; have hbx := hx.heap (heap_alloc_new wr _); have p0 := cell_of_row w2 wr.heap.size 0 _ _ _ hbx; have hcx := (((Ext.refl wr).alloc _).trans hx).cell hcx; clear hbx))
              go_roundw
              case rel => exact ⟨j + 1 + 1, by omega, by go_num, (HE.out.alloc _).trans hx, HS.out⟩
              case measure => simp [intOf]; omega
            · have HF := Lib.hid (show FM.may l = false from HNO.out (.inr (by rw [HL0.out, hxk, hfk]; rfl)))
              go_wp2_with (go_at_call 86; go_loud (refine (H1.out _ ((Ext.refl wr).alloc _)).mono ?_; rw [H1'.out]; rintro e w2 ⟨rfl, hx⟩; have hbx := hx.heap (heap_alloc_new wr _); have p0 := cell_of_row w2 wr.heap.size 0 _ _ _ hbx; have hcx := (((Ext.refl wr).alloc _).trans hx).cell hcx; clear hbx))
              go_ret
              exact ⟨by rw [HF.out]; rfl, (HE.out.alloc _).trans hx⟩
    · have HF := Lib.hid (show FM.may l = true by rw [FM.may_split l k, HM.out, List.drop_eq_nil_of_le (by omega)]; rfl)
      clear hE
      go_wp2_with fail
      go_ret
      exact ⟨by rw [HF.out]; rfl, HE.out⟩

end Go.Proofs.Ytfblkahjefdmaaa
