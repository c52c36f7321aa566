/- Walks: digit, behind of the document's own reader. -/
import Derived.Test.YtfblkahjefdmaaaRfB
namespace Go.Proofs.Ytfblkahjefdmaaa
open Go.RowKit

theorem Qn.bump1 {w0 w : World} {rb : Nat} {sv : Value} {s : List Int} {st : RX.St} (h : Qn w0 rb sv s w st) : Qn w0 rb sv s (w.setCell ⟨rb, 1, none⟩ (.int .i64 ((st.at_ : Int) + 1))) (st.bump 1) := h.bump 1
namespace RX
/-- What stands behind a backslash: its ranges; is it all but these (none, and true: it is wrong)? -/
def behindM (c : Int) : List Int × Bool := match sortR c with
  | some l => (l, false)
  | none => match sortR (lower c) with
    | some l => (l, true)
    | none => match signR c with
      | some x => ([x, x], false)
      | none => ([], true)
theorem lower_six {c : Int} (h : c ≠ 100 ∧ c ≠ 119 ∧ c ≠ 115 ∧ c ≠ 68 ∧ c ≠ 87 ∧ c ≠ 83) : lower c ≠ 100 ∧ lower c ≠ 119 ∧ lower c ≠ 115 := by
  unfold lower
  split
  · rename_i hc
    rcases hc with hc | ⟨hc, -⟩ <;> (have := within_iff.1 hc; omega)
  · omega
theorem sort_six {c : Int} (h : c ≠ 100 ∧ c ≠ 119 ∧ c ≠ 115) : sortR c = none := by
  unfold sortR
  rw [if_neg h.1, if_neg h.2.1, if_neg h.2.2]
theorem behind_else {c : Int} (h : c ≠ 100 ∧ c ≠ 119 ∧ c ≠ 115 ∧ c ≠ 68 ∧ c ≠ 87 ∧ c ≠ 83) : behindM c = match signR c with
    | some x => ([x, x], false)
    | none => ([], true) := by
  unfold behindM
  rw [sort_six ⟨h.1, h.2.1, h.2.2.1⟩]
  simp only
  rw [sort_six (lower_six h)]
end RX
section
variable {w0 : World} {rb : Nat} {sv : Value} {s : List Int}
set_option maxHeartbeats 1000000 in
theorem qdigit_any (w1 : World) (st : RX.St) (he : Qn w0 rb sv s w1 st) (ha1 : st.at_ ≤ 1000) :
    Calls Try.prog 150 #[.pointer (some ⟨rb, 0, none⟩)] w1 (QV (.int .i64 (RX.must s st).1) rb sv w1 (RX.must s st).2) := by
  have HQ1 := Lib.hid he
  have HO1 := Lib.hid (Only.refl w1 rb)
  obtain ⟨c, hc⟩ : ∃ c, RX.nxt s st 0 = c := ⟨_, rfl⟩
  have HN := Lib.hid hc
  clear he
  by_cases hd : 48 ≤ c ∧ c ≤ 57
  · have HW := Lib.hid (show RX.within c 48 57 = true from within_iff.2 hd)
    have hm : RX.must s st = (c - 48, st.bump 1) := by
      unfold RX.must RX.digit
      rw [hc, if_neg (by rw [if_neg (by omega)]; omega), if_neg (by omega)]
    rw [hm]
    obtain ⟨h48, h57⟩ := hd
    clear hm hc
    go_enter Try.func150, Try.ntmps150
    go_upto_region 5 with (first
      | (go_at_call 116; go_loud (refine (qnext_any _ _ HQ1.out).mono ?_; rw [show RX.nxt s st 0 = c from HN.out]; rintro e w2 ⟨rfl, hx⟩; have HQ2 := Lib.hid (Qn.ex HQ1.out hx); have HO2 := Lib.hid (Only.trans HO1.out (Only.of_ext hx rb)); have HE2 := Lib.hid hx; clear hx))
      | (go_at_call 129; go_loud (refine (rdigQ_any c _).mono ?_; rw [HW.out]; rintro e w3 ⟨rfl, rfl⟩)))
    have c1 := HQ2.out.blk.c1
    have f1 := HQ2.out.blk.fr 1
    go_wp2_with fail
    go_ret
    exact ⟨rfl, (Qn.bump1 HQ2.out).blk, HO2.out.trans ((Only.refl _ _).set _)⟩
  · have HW := Lib.hid (show RX.within c 48 57 = false from Bool.eq_false_iff.2 (fun h => hd (within_iff.1 h)))
    have hm : RX.must s st = (0, st.fail 5 st.at_) := by
      unfold RX.must RX.digit
      rw [hc, if_pos (by split <;> omega)]
    rw [hm]
    clear hm hc hd
    go_enter Try.func150, Try.ntmps150
    go_upto_region 3 with (first
      | (go_at_call 116; go_loud (refine (qnext_any _ _ HQ1.out).mono ?_; rw [show RX.nxt s st 0 = c from HN.out]; rintro e w2 ⟨rfl, hx⟩; have HQ2 := Lib.hid (Qn.ex HQ1.out hx); have HO2 := Lib.hid (Only.trans HO1.out (Only.of_ext hx rb)); have HE2 := Lib.hid hx; clear hx))
      | (go_at_call 129; go_loud (refine (rdigQ_any c _).mono ?_; rw [HW.out]; rintro e w3 ⟨rfl, rfl⟩)))
    have c1 := HQ2.out.blk.c1
    go_wp2_with (go_at_call 89; go_loud (refine (qbad_any _ _ 5 (st.at_ : Int) HQ2.out).mono ?_; rintro e w4 ⟨rfl, hq, ho⟩; have HQ4 := Lib.hid (Qn.step HQ2.out ho hq); have HO4 := Lib.hid (Only.trans HO2.out ho); have HP4 := Lib.hid ho; clear hq ho))
    go_ret
    exact ⟨rfl, HQ4.out.blk, HO4.out⟩
/-- What behind returns. -/
def BeP (c : Int) (rb : Nat) (sv : Value) (w : World) (st' : RX.St) (e : Ending) (w' : World) : Prop :=
  ∃ v, e = .returned (.tuple #[v, .bool (RX.behindM c).2]) ∧ SlB 21 1 Cc w.heap.size w' v (RX.behindM c).1 ∧ QS rb sv w' st' ∧ Only w w' rb
theorem BeP.lit {c : Int} {w w' : World} {st' : RX.St} (l : List Int) (b : Bool) (h : RX.behindM c = (l, b)) (hl : l.length ≤ 1000) (hq : QS rb sv w' st') (ho : Only w w' rb) (n : Nat) (hn : n = l.length) :
    BeP c rb sv w st' (.returned (.tuple #[.slice (some ⟨w'.heap.size, 0, none⟩) n n, .bool b])) (w'.alloc (.cells (l.map (Value.int .i32)).toArray 21)) := by
  refine ⟨_, by rw [h], ?_, ((Ext.refl w').alloc _).heap hq, ho.alloc _⟩
  rw [h]
  exact c_lit w' l _ _ rfl hn ho.size hl
theorem BeP.none_ {c : Int} {w w' : World} {st' : RX.St} (h : RX.behindM c = ([], true)) (hq : QS rb sv w' st') (ho : Only w w' rb) : BeP c rb sv w st' (.returned (.tuple #[.slice none 0 0, .bool true])) w' := by
  refine ⟨_, by rw [h], ?_, hq, ho⟩
  rw [h]
  exact SlB.nil_
set_option maxRecDepth 100000 in
set_option maxHeartbeats 2000000 in
theorem qbehind_any (w1 : World) (st : RX.St) (he : Qn w0 rb sv s w1 st) (ha1 : st.at_ ≤ 1000) :
    Calls Try.prog 149 #[.pointer (some ⟨rb, 0, none⟩)] w1 (BeP (RX.nxt s (st.bump 1) 0) rb sv w1 (st.bump 2)) := by
  have HQ1 := Lib.hid he
  have HO1 := Lib.hid (Only.refl w1 rb)
  obtain ⟨c, hc⟩ : ∃ c, RX.nxt s (st.bump 1) 0 = c := ⟨_, rfl⟩
  obtain ⟨low, hlow⟩ : ∃ x, RX.lower c = x := ⟨_, rfl⟩
  have hcn : c = -1 ∨ 0 ≤ c := by
    rw [← hc]
    unfold RX.nxt
    rcases hx : s[(st.bump 1).at_ + 0]? with _ | x
    · exact .inl rfl
    · exact .inr (he.pos x (List.mem_of_getElem? hx))
  have HLOW := Lib.hid hlow
  rw [hc]
  have HC := Lib.hid hc
  clear he hc hlow
  go_enter Try.func149, Try.ntmps149
  have c1 := HQ1.out.blk.c1
  have f1 := HQ1.out.blk.fr 1
  go_upto_region 2 with fail
  have HQ2 := Lib.hid (Qn.bump1 HQ1.out)
  have HO2 := Lib.hid (Only.trans HO1.out ((Only.refl w1 rb).set (o := 1) (.int .i64 ((st.at_ : Int) + 1))))
  generalize w1.setCell _ _ = w2 at HQ2 HO2 ⊢
  obtain ⟨st2, hst⟩ : ∃ x, RX.St.bump st 1 = x := ⟨_, rfl⟩
  have ha2 : st2.at_ ≤ 1001 := by rw [← hst]; show st.at_ + 1 ≤ _; omega
  rw [hst] at HQ2
  have HST2 := Lib.hid hst
  clear c1 f1 hst HQ1 HO1
  have HN := Lib.hid (show RX.nxt s st2 0 = c by rw [← HST2.out]; exact HC.out)
  go_upto_region 4 with (first
    | (go_at_call 116; go_loud (refine (qnext_any _ _ HQ2.out).mono ?_; rw [show RX.nxt s st2 0 = c from HN.out]; rintro e w3 ⟨rfl, hx⟩; have HQ3 := Lib.hid (Qn.ex HQ2.out hx); have HO3 := Lib.hid (Only.trans HO2.out (Only.of_ext hx rb)); have HE3 := Lib.hid hx; clear hx))
    | (go_at_call 41; go_loud (refine (rlower_any c _).mono ?_; rw [HLOW.out]; rintro e wz ⟨rfl, n, rfl⟩; have HQ4 := Lib.hid (Qn.ex HQ3.out ((Ext.refl _).drewN n)); have HO4 := Lib.hid (Only.trans HO3.out ((Only.refl _ _).drewN n)))))
  generalize w3.drewN _ = w4 at HQ4 HO4 ⊢
  have c1 := HQ4.out.blk.c1
  have f1 := HQ4.out.blk.fr 1
  go_upto_region 6 with fail
  have HQ5 := Lib.hid (Qn.bump1 HQ4.out)
  have HO5 := Lib.hid (Only.trans HO4.out ((Only.refl w4 rb).set (o := 1) (.int .i64 ((st2.at_ : Int) + 1))))
  generalize w4.setCell _ _ = w5 at HQ5 HO5 ⊢
  obtain ⟨st5, hst⟩ : ∃ x, RX.St.bump st2 1 = x := ⟨_, rfl⟩
  have ha5 : st5.at_ ≤ 1002 := by rw [← hst]; show st2.at_ + 1 ≤ _; omega
  rw [hst] at HQ5
  have HST5 := Lib.hid hst
  clear c1 f1 hst HQ4 HO4
  have HS := Lib.hid (show st5 = st.bump 2 by rw [← HST5.out, ← HST2.out]; rfl)
  rw [HS.out] at HQ5
  have HCL := Lib.hid (fun w => rclassQ_any c w)
  by_cases h100 : c = 100
  · subst h100
    obtain rfl : low = RX.lower 100 := HLOW.out.symm
    have hl : RX.lower 100 = 100 := by decide
    rw [hl]
    clear hl HLOW
    go_wp2_with fail
    go_ret2
    exact BeP.lit (c := 100) [48, 57] false (by decide) (by decide) HQ5.out.blk HO5.out _ rfl
  by_cases h68 : c = 68
  · subst h68
    obtain rfl : low = RX.lower 68 := HLOW.out.symm
    have hl : RX.lower 68 = 100 := by decide
    rw [hl]
    clear hl HLOW
    go_wp2_with fail
    go_ret2
    exact BeP.lit (c := 68) [48, 57] true (by decide) (by decide) HQ5.out.blk HO5.out _ rfl
  by_cases h119 : c = 119
  · subst h119
    obtain rfl : low = RX.lower 119 := HLOW.out.symm
    have hl : RX.lower 119 = 119 := by decide
    rw [hl]
    clear hl HLOW
    go_wp2_with fail
    go_ret2
    exact BeP.lit (c := 119) [97, 122, 65, 90, 48, 57, 95, 95] false (by decide) (by decide) HQ5.out.blk HO5.out _ rfl
  by_cases h87 : c = 87
  · subst h87
    obtain rfl : low = RX.lower 87 := HLOW.out.symm
    have hl : RX.lower 87 = 119 := by decide
    rw [hl]
    clear hl HLOW
    go_wp2_with fail
    go_ret2
    exact BeP.lit (c := 87) [97, 122, 65, 90, 48, 57, 95, 95] true (by decide) (by decide) HQ5.out.blk HO5.out _ rfl
  by_cases h115 : c = 115
  · subst h115
    obtain rfl : low = RX.lower 115 := HLOW.out.symm
    have hl : RX.lower 115 = 115 := by decide
    rw [hl]
    clear hl HLOW
    go_wp2_with fail
    go_ret2
    exact BeP.lit (c := 115) [32, 32, 9, 9, 10, 10] false (by decide) (by decide) HQ5.out.blk HO5.out _ rfl
  by_cases h83 : c = 83
  · subst h83
    obtain rfl : low = RX.lower 83 := HLOW.out.symm
    have hl : RX.lower 83 = 115 := by decide
    rw [hl]
    clear hl HLOW
    go_wp2_with fail
    go_ret2
    exact BeP.lit (c := 83) [32, 32, 9, 9, 10, 10] true (by decide) (by decide) HQ5.out.blk HO5.out _ rfl
  by_cases h110 : c = 110
  · subst h110
    obtain rfl : low = RX.lower 110 := HLOW.out.symm
    have hl : RX.lower 110 = 110 := by decide
    rw [hl]
    clear hl HLOW
    go_wp2_with fail
    go_ret2
    exact BeP.lit (c := 110) [10, 10] false (by decide) (by decide) HQ5.out.blk HO5.out _ rfl
  by_cases h116 : c = 116
  · subst h116
    obtain rfl : low = RX.lower 116 := HLOW.out.symm
    have hl : RX.lower 116 = 116 := by decide
    rw [hl]
    clear hl HLOW
    go_wp2_with fail
    go_ret2
    exact BeP.lit (c := 116) [9, 9] false (by decide) (by decide) HQ5.out.blk HO5.out _ rfl
  have hlw := RX.lower_six (c := c) ⟨h100, h119, h115, h68, h87, h83⟩
  rw [HLOW.out] at hlw
  have hel := RX.behind_else (c := c) ⟨h100, h119, h115, h68, h87, h83⟩
  have b100 : (low == 100) = false := by simpa using hlw.1
  have b119 : (low == 119) = false := by simpa using hlw.2.1
  have b115 : (low == 115) = false := by simpa using hlw.2.2
  have b110 : (c == 110) = false := by simpa using h110
  have b116 : (c == 116) = false := by simpa using h116
  rcases hcn with rfl | hcn
  · have HB := Lib.hid (show RX.behindM (-1) = ([], true) by decide)
    clear hel hlw
    go_wp2_with fail
    go_ret2
    exact BeP.none_ HB.out HQ5.out.blk HO5.out
  have hneg : decide (c < 0) = false := decide_eq_false (by omega)
  have hc1 : c ≠ -1 := by omega
  by_cases h4 : RX.classOf c = 4
  · have HB := Lib.hid (show RX.behindM c = ([c, c], false) by rw [hel]; unfold RX.signR; rw [if_neg h110, if_neg h116, if_neg hc1, if_pos (.inl h4)])
    have H4 := Lib.hid h4
    clear hel hlw h4
    go_wp2_with (go_at_call 106; go_loud (refine (HCL.out _).mono ?_; rw [H4.out]; rintro e w6 ⟨rfl, rfl⟩))
    go_ret2
    exact BeP.lit [c, c] false HB.out (by simp) HQ5.out.blk HO5.out _ rfl
  obtain ⟨z, hz⟩ : ∃ z, RX.classOf c = z := ⟨_, rfl⟩
  have HZ := Lib.hid hz
  rw [hz] at h4
  have bz4 : (z == 4) = false := by simpa using h4
  by_cases h1 : z = 1
  · have HB := Lib.hid (show RX.behindM c = ([c, c], false) by rw [hel]; unfold RX.signR; rw [if_neg h110, if_neg h116, if_neg hc1, if_pos (.inr (hz.trans h1))])
    have bz1 : (z == 1) = true := by simpa using h1
    clear hel hlw h4 hz h1
    go_wp2_with (go_at_call 106; go_loud (refine (HCL.out _).mono ?_; rw [HZ.out]; rintro e w6 ⟨rfl, rfl⟩))
    go_ret2
    exact BeP.lit [c, c] false HB.out (by simp) HQ5.out.blk HO5.out _ rfl
  · have HB := Lib.hid (show RX.behindM c = ([], true) by rw [hel]; unfold RX.signR; rw [if_neg h110, if_neg h116, if_neg hc1, if_neg (by rw [hz]; omega)])
    have bz1 : (z == 1) = false := by simpa using h1
    clear hel hlw h4 hz h1
    go_wp2_with (go_at_call 106; go_loud (refine (HCL.out _).mono ?_; rw [HZ.out]; rintro e w6 ⟨rfl, rfl⟩))
    go_ret2
    exact BeP.none_ HB.out HQ5.out.blk HO5.out
end
end Go.Proofs.Ytfblkahjefdmaaa
