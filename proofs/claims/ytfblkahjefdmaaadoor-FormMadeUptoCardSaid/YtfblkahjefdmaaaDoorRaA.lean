/- Walks: the document's own answer: has, Digit, number, stands, the cases' names. -/
import Derived.Test.YtfblkahjefdmaaaDoorFdQ
namespace Go.Proofs.YtfblkahjefdmaaaDoor
open Go.RowKit

theorem signs_get {b : ByteArray} {k : Nat} (h : k < b.size) : (signs b)[k]? = some (b[k].toNat : Int) := by
  have h2 : k < (signs b).length := by rw [signs_len]; exact h
  rw [List.getElem?_eq_getElem h2]
  simp [signs]; rfl
theorem rdigit_any (r : Int) (w : World) : Calls Tryd.prog 56 #[.int .i32 r] w (BoolP (FM.isD r) w) := by
  by_cases h1 : 48 ≤ r <;> by_cases h2 : r ≤ 57
  all_goals
    go_enter Tryd.func56, Tryd.ntmps56
    go_wp2_with fail
    go_ret
    exact ⟨ret_congr (by simp [FM.isD]; omega), rfl⟩

set_option maxHeartbeats 1000000 in
theorem has_any (bs : ByteArray) (c : Int) (w : World) (hs : bs.size ≤ 1000) : Calls Tryd.prog 30 #[.string bs, .int .i32 c] w (BoolP (decide (c ∈ signs bs)) w) := by
  go_enter Tryd.func30, Tryd.ntmps30
  go_wp2_with fail
  go_loop [5] (fun i => ∃ k : Nat, k ≤ bs.size ∧ i = .int .i64 k ∧ ∀ j, j < k → (signs bs)[j]? ≠ some c) (fun i => bs.size - (intOf i).toNat)
  case atStart => exact ⟨0, Nat.zero_le _, rfl, by intro j hj; omega⟩
  case round =>
    obtain ⟨k, hk, rfl, hpre⟩ := hrel
    have HP := Lib.hid hpre
    clear hpre
    by_cases hlt : k < bs.size
    · have hg := signs_get hlt
      have hw := wrap_byte bs[k]
      by_cases he : (bs[k].toNat : Int) = c
      · have hb : (wrap32 (bs[k].toNat : Int) == c) = true := by rw [hw, he]; simp
        have hb2 : ((bs[k].toNat : Int) == c) = true := by rw [he]; simp
        have HM := Lib.hid (show decide (c ∈ signs bs) = true from decide_eq_true (List.mem_of_getElem? (by rw [hg, he])))
        clear he hg hw
        go_wp2_with fail
        go_ret
        exact ⟨by rw [HM.out]; rfl, rfl⟩
      · have hb : (wrap32 (bs[k].toNat : Int) == c) = false := by rw [hw]; simpa using he
        have hb2 : ((bs[k].toNat : Int) == c) = false := by simpa using he
        have HE := Lib.hid (show ∀ j, j < k + 1 → (signs bs)[j]? ≠ some c by
          intro j hj
          rcases Nat.lt_succ_iff_lt_or_eq.1 hj with h | rfl
          · exact HP.out j h
          · rw [hg]; intro e; injection e with e; exact he e)
        clear he hg hw
        go_wp2_with fail
        go_round
        case rel => exact ⟨k + 1, by omega, by go_num, HE.out⟩
        case measure => simp [intOf]; omega
    · have HM := Lib.hid (show decide (c ∈ signs bs) = false from decide_eq_false (by
        intro hm
        obtain ⟨j, hj, e⟩ := List.mem_iff_getElem.1 hm
        exact HP.out j (by rw [signs_len] at hj; omega) (by rw [List.getElem?_eq_getElem hj, e])))
      go_wp2_with fail
      go_ret
      exact ⟨by rw [HM.out]; rfl, rfl⟩
theorem has_marks (c : Int) (w : World) : Calls Tryd.prog 30 #[.string { data := #[92, 125, 58, 36, 47] }, .int .i32 c] w (BoolP (decide (c ∈ FM.marks)) w) := has_any ⟨#[92, 125, 58, 36, 47]⟩ c w (by decide)
theorem has_outer (c : Int) (w : World) : Calls Tryd.prog 30 #[.string { data := #[92, 36, 125, 47] }, .int .i32 c] w (BoolP (decide (c ∈ FM.outer)) w) := has_any ⟨#[92, 36, 125, 47]⟩ c w (by decide)

/-- Do these signs stand at a place? -/
def stB (s : List Int) (i : Nat) (t : List Int) : Bool := decide ((s.drop i).take t.length = t)
set_option maxHeartbeats 1000000 in
theorem stands_any (s : List Int) (vs : Value) (i : Nat) (t : ByteArray) (w : World) (hs : SlC w vs s) (hi : i ≤ s.length) (ht : t.size ≤ 1000) :
    Calls Tryd.prog 45 #[vs, .int .i64 (i : Int), .string t] w (RetD (.bool (stB s i (signs t))) w) := by
  have H := Lib.hid hs
  obtain ⟨A, ca, rfl, hlx, hcx, -⟩ := hs
  by_cases hfit : t.size ≤ s.length - i
  · have hd : decide ((s.length : Int) - (i : Int) < (t.size : Int)) = false := by simp; omega
    go_enter Tryd.func45, Tryd.ntmps45
    go_wp2_with fail
    go_loopw [7] (fun j wr => ∃ k : Nat, k ≤ t.size ∧ j = .int .i64 k ∧ (∀ j, j < k → (signs t)[j]? = s[i + j]?) ∧ ∃ m, wr = w.drewN m) (fun j _ => t.size - (intOf j).toNat)
    case atStart => exact ⟨0, Nat.zero_le _, rfl, by intro j hj; omega, 0, rfl⟩
    case round =>
      obtain ⟨k, hk, rfl, hpre, m, rfl⟩ := hrel
      have HP := Lib.hid hpre
      clear hpre
      by_cases hlt : k < t.size
      · have hg := signs_get hlt
        have hw := wrap_byte t[k]
        have hlt2 : i + k < s.length := by omega
        obtain ⟨b, o, rfl, hc⟩ := H.out.at_ hlt2
        have hlt3 : (i : Int) + (k : Int) < s.length := by omega
        have hwr : IntKind.i64.wrap ((i : Int) + (k : Int)) = (i : Int) + (k : Int) := IntWalk.i64_in _ (by omega)
        have hnn : 0 ≤ (i : Int) + (k : Int) := by omega
        have htn : ((i : Int) + (k : Int)).toNat = i + k := by omega
        have hgs := List.getElem?_eq_getElem hlt2
        generalize s[i + k] = y at hc hgs
        by_cases he : y = (t[k].toNat : Int)
        · have hb : (y != wrap32 (t[k].toNat : Int)) = false := by rw [hw]; simp [he]
          have hb2 : (y != (t[k].toNat : Int)) = false := by simp [he]
          have HE := Lib.hid (show ∀ j, j < k + 1 → (signs t)[j]? = s[i + j]? by
            intro j hj
            rcases Nat.lt_succ_iff_lt_or_eq.1 hj with h | rfl
            · exact HP.out j h
            · rw [hg, hgs, he])
          clear he hg hw hgs
          go_wp2_with fail
          go_quiet (fail)
          go_wp2_with fail
          go_roundw
          case rel => exact ⟨k + 1, by omega, by go_num, HE.out, _, rfl⟩
          case measure => simp [intOf]; omega
        · have hb : (y != wrap32 (t[k].toNat : Int)) = true := by rw [hw]; simpa using he
          have hb2 : (y != (t[k].toNat : Int)) = true := by simpa using he
          have HM := Lib.hid (show stB s i (signs t) = false from decide_eq_false (by
            intro h
            have h2 := congrArg (fun l => l[k]?) h
            simp only [List.getElem?_take, List.getElem?_drop] at h2
            rw [if_pos (by rw [signs_len]; exact hlt), hgs, hg] at h2
            injection h2 with h2
            exact he h2))
          clear he hg hw hgs
          go_wp2_with fail
          go_quiet (fail)
          go_wp2_with fail
          go_ret
          exact ⟨by rw [HM.out]; rfl, dd⟩
      · have HM := Lib.hid (show stB s i (signs t) = true from decide_eq_true (by
          apply List.ext_getElem?
          intro j
          rw [List.getElem?_take]
          split
          · rename_i h
            rw [signs_len] at h
            rw [List.getElem?_drop, HP.out j (by omega)]
          · rename_i h
            rw [List.getElem?_eq_none (by omega)]))
        go_wp2_with fail
        go_ret
        exact ⟨by rw [HM.out]; rfl, m, rfl⟩
  · have hd : decide ((s.length : Int) - (i : Int) < (t.size : Int)) = true := by simp; omega
    have HM := Lib.hid (show stB s i (signs t) = false from decide_eq_false (by
      intro h
      have h2 := congrArg List.length h
      rw [List.length_take, List.length_drop, signs_len] at h2
      omega))
    go_enter Tryd.func45, Tryd.ntmps45
    go_wp2_with fail
    go_ret
    exact ⟨by rw [HM.out]; rfl, 0, rfl⟩
theorem stB_one {s : List Int} {i : Nat} {a : Int} : stB s i [a] = decide (s[i]? = some a) := by
  unfold stB
  rw [decide_eq_decide]
  rcases Nat.lt_or_ge i s.length with h | h
  · rw [List.drop_eq_getElem_cons h, List.getElem?_eq_getElem h]
    show ([s[i]] = [a]) ↔ (some s[i] = some a)
    simp
  · rw [List.drop_eq_nil_of_le h, List.getElem?_eq_none h]; simp
theorem stB_two {s : List Int} {i : Nat} {a b : Int} : stB s i [a, b] = decide (s[i]? = some a ∧ s[i + 1]? = some b) := by
  unfold stB
  rw [decide_eq_decide]
  rcases Nat.lt_or_ge i s.length with h | h
  · rw [List.drop_eq_getElem_cons h, List.getElem?_eq_getElem h]
    rcases Nat.lt_or_ge (i + 1) s.length with h2 | h2
    · rw [List.drop_eq_getElem_cons h2, List.getElem?_eq_getElem h2]
      show ([s[i], s[i + 1]] = [a, b]) ↔ (some s[i] = some a ∧ some s[i + 1] = some b)
      simp
    · rw [List.drop_eq_nil_of_le h2, List.getElem?_eq_none h2]; simp
  · rw [List.drop_eq_nil_of_le h, List.getElem?_eq_none h]; simp

/-- The call returned a string, and nothing else. -/
def BoolS (b : ByteArray) (w : World) (e : Ending) (w' : World) : Prop := e = .returned (.string b) ∧ w = w'
theorem caseName_any (c : Int) (h1 : 1 ≤ c) (h2 : c ≤ 5) (w : World) : Calls Tryd.prog 37 #[.int .i64 c] w (BoolS (nbs.getD (c.toNat - 1) ⟨#[]⟩) w) := by
  have : c = 1 ∨ c = 2 ∨ c = 3 ∨ c = 4 ∨ c = 5 := by omega
  rcases this with rfl | rfl | rfl | rfl | rfl
  all_goals
    go_enter Tryd.func37, Tryd.ntmps37
    go_wp2_with fail
    go_ret
    exact ⟨rfl, rfl⟩

/-- A number and the place behind it; 0, 0: there is none. -/
def rnum (R : Option (Int × Nat)) (i : Nat) : Int × Int := match R with | some (n, k) => (n, ((i + k : Nat) : Int)) | none => (0, 0)
theorem val_three : ∀ l : List Int, l.length ≤ 3 → (∀ c ∈ l, 48 ≤ c ∧ c ≤ 57) → 0 ≤ FM.val l ∧ FM.val l ≤ 999
  | [], _, _ => by simp [FM.val]
  | [a], _, h => by have := h a (by simp); simp [FM.val]; omega
  | [a, b], _, h => by have := h a (by simp); have := h b (by simp); simp [FM.val]; omega
  | [a, b, c], _, h => by have := h a (by simp); have := h b (by simp); have := h c (by simp); simp [FM.val]; omega
  | _ :: _ :: _ :: _ :: _, h, _ => by simp at h
theorem digs_stop : ∀ l : List Int, ∀ hk : FM.digs l < l.length, FM.isD l[FM.digs l] = false := by
  intro l
  induction l with
  | nil => intro hk; simp at hk
  | cons c r ih =>
    intro hk
    by_cases hc : FM.isD c = true
    · have e : FM.digs (c :: r) = FM.digs r + 1 := by simp [FM.digs, hc]
      simp only [e]
      exact ih (by rw [e] at hk; simpa using hk)
    · have e : FM.digs (c :: r) = 0 := by simp [FM.digs, hc]
      simp only [e]
      simpa using hc
set_option maxRecDepth 100000 in
set_option maxHeartbeats 2000000 in
theorem rnumber_any (s : List Int) (vs : Value) (i : Nat) (w : World) (hs : SlC w vs s) (hi : i ≤ s.length) :
    Calls Tryd.prog 44 #[vs, .int .i64 (i : Int)] w (Ret2 (.int .i64 (rnum (FM.number (s.drop i)) i).1) (.int .i64 (rnum (FM.number (s.drop i)) i).2) w) := by
  have H := Lib.hid hs
  obtain ⟨A, ca, rfl, hlx, hcx, -⟩ := hs
  obtain ⟨R, hR⟩ : ∃ R, FM.number (s.drop i) = R := ⟨_, rfl⟩
  rw [hR]
  have HR := Lib.hid hR
  clear hR
  obtain ⟨D, hD⟩ : ∃ D, FM.digs (s.drop i) = D := ⟨_, rfl⟩
  have hDl : i + D ≤ s.length := by
    have := FM.digs_le (s.drop i)
    rw [hD, List.length_drop] at this; omega
  have HD := Lib.hid hD
  have HG := Lib.hid (show ∀ k (h : k < D), FM.isD (s[i + k]'(by omega)) = true by
    intro k h
    have := digs_get (s.drop i) k (by omega)
    simpa using this)
  have HS := Lib.hid (show ∀ (h : i + D < s.length), FM.isD s[i + D] = false by
    intro h
    have h2 := digs_stop (s.drop i) (by rw [hD, List.length_drop]; omega)
    have h3 : (s.drop i)[FM.digs (s.drop i)]'(by rw [hD, List.length_drop]; omega) = s[i + D] := by simp [hD]
    rw [h3] at h2
    exact h2)
  clear hD
  have HDG := Lib.hid rdigit_any
  obtain ⟨M, hM⟩ : ∃ M, min D 3 = M := ⟨_, rfl⟩
  have hM1 : M ≤ D := by omega
  have hM2 : M ≤ 3 := by omega
  have hM3 : M < 3 → M = D := by omega
  go_enter Tryd.func44, Tryd.ntmps44
  go_upto_block 0 with fail
  go_cut [6, 7] (fun n k wx => n = .int .i64 (FM.val ((s.drop i).take M)) ∧ k = .int .i64 (M : Int) ∧ wx = w)
  case first =>
    go_wp2_with fail
    go_loop [6, 7] (fun n x => ∃ k : Nat, k ≤ M ∧ n = .int .i64 (FM.val ((s.drop i).take k)) ∧ x = .int .i64 (k : Int)) (fun _ x => 3 - (intOf x).toNat)
    case atStart => exact ⟨0, Nat.zero_le _, rfl, rfl⟩
    case round =>
      obtain ⟨k, hk, rfl, rfl⟩ := hrel
      have hvr := val_three ((s.drop i).take k) (by rw [List.length_take]; omega) (by
        intro c hc
        obtain ⟨j, hj, rfl⟩ := List.mem_take_iff_getElem.1 hc
        have := HG.out j (by omega)
        simp only [List.getElem_drop]
        simpa [FM.isD] using this)
      obtain ⟨V, hV⟩ : ∃ V, FM.val ((s.drop i).take k) = V := ⟨_, rfl⟩
      have HV := Lib.hid hV
      rw [hV] at hvr
      rw [hV]
      obtain ⟨hv0, hv9⟩ := hvr
      clear hV
      by_cases hlt : i + k < s.length
      · obtain ⟨b, o, rfl, hc⟩ := H.out.at_ hlt
        have hlt2 : (i : Int) + (k : Int) < s.length := by omega
        by_cases hk3 : k < 3
        · have hk3i : (k : Int) < 3 := by omega
          by_cases hkd : k < D
          · have hkm : k < M := by omega
            have HB := Lib.hid (HG.out k hkd)
            have hv2 := val_snoc ((s.drop i).take k) s[i + k]
            have e : (s.drop i).take k ++ [s[i + k]] = (s.drop i).take (k + 1) := by
              rw [List.take_succ_eq_append_getElem (by rw [List.length_drop]; omega)]; simp
            rw [e, HV.out] at hv2
            have hdd : 48 ≤ s[i + k] ∧ s[i + k] ≤ 57 := by simpa [FM.isD] using HB.out
            generalize s[i + k] = x at hc HB hdd hv2
            have HV2 := Lib.hid hv2
            obtain ⟨hd1, hd2⟩ := hdd
            clear hv2 e
            go_wp2_with (go_at_call 56; go_loud (refine (HDG.out x _).mono ?_; rw [HB.out]; rintro e w2 ⟨rfl, rfl⟩))
            go_round
            case rel => exact ⟨k + 1, by omega, by rw [HV2.out], by go_num⟩
            case measure => simp [intOf]; omega
          · obtain rfl : k = D := by omega
            obtain rfl : k = M := by omega
            have HB := Lib.hid (HS.out hlt)
            generalize s[i + k] = x at hc HB
            go_wp2_with (go_at_call 56; go_loud (refine (HDG.out x _).mono ?_; rw [HB.out]; rintro e w2 ⟨rfl, rfl⟩))
            go_meet
            exact ⟨by rw [HV.out], rfl, rfl⟩
        · obtain rfl : k = M := by omega
          have hk3i : ¬ (k : Int) < 3 := by omega
          go_wp2_with fail
          go_meet
          exact ⟨by rw [HV.out], rfl, rfl⟩
      · obtain rfl : k = M := by omega
        have hlt2 : ¬ (i : Int) + (k : Int) < s.length := by omega
        go_wp2_with fail
        go_meet
        exact ⟨by rw [HV.out], rfl, rfl⟩
  case rest =>
    obtain ⟨rfl, rfl, hw⟩ := hcut
    subst hw
    by_cases h0 : M = 0
    · have HN := Lib.hid (show R = none by rw [← HR.out]; unfold FM.number; rw [HD.out, if_pos (by omega)])
      have e1 : ((M : Int) == 0) = true := by simp [h0]
      go_wp2_with fail
      go_ret2
      exact ⟨by rw [HN.out]; rfl, Ext.refl _⟩
    · have e1 : ((M : Int) == 0) = false := by simp; omega
      by_cases h3 : M = 3
      · have HN := Lib.hid (show R = none by rw [← HR.out]; unfold FM.number; rw [HD.out, if_pos (by omega)])
        have e3 : ((M : Int) == 3) = true := by simp [h3]
        go_wp2_with fail
        go_ret2
        exact ⟨by rw [HN.out]; rfl, Ext.refl _⟩
      · have e3 : ((M : Int) == 3) = false := by simp; omega
        have hMD := hM3 (by omega)
        have HN := Lib.hid (show R = some (FM.val ((s.drop i).take M), M) by rw [← HR.out]; unfold FM.number; rw [HD.out, if_neg (by omega), hMD])
        clear hMD
        go_wp2_with fail
        go_ret2
        exact ⟨by rw [HN.out]; rfl, Ext.refl _⟩
end Go.Proofs.YtfblkahjefdmaaaDoor
