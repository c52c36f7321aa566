/- Walks: the three laws of layer 2. -/
import Derived.Test.YtdhhoicngldfmaaDoorFaultH
namespace Go.Proofs.YtdhhoicngldfmaaDoor
open Go.RowKit

theorem beq_self' (a b : Int) : ((a == b) == (a == b)) = true := by simp
theorem beq_int_self (a : Int) : (a == a) = true := by simp

set_option maxRecDepth 100000 in
set_option maxHeartbeats 1000000 in
theorem faultTells_any (c d : Int) (va : Value) (xs : List Int) (w : World) (hL : Laid w) (hx : SlI w va xs) :
    Calls Tryd.prog 3 #[.int .i64 c, .int .i64 d, va] w (Ret (.bool true) w) := by
  have HL := Lib.hid hL
  have HS := Lib.hid (some_any va xs w hx)
  obtain ⟨A0, c0, rfl, _, _, _⟩ := hx
  clear hL
  have hlen : (some40 xs).length ≤ 40 := by unfold some40; exact List.length_take_le _ _
  generalize some40 xs = ys at HS hlen
  by_cases hc : c = 0
  · subst hc
    have hd : d = 0 ∨ (d == 0) = false := by by_cases h : d = 0; exact .inl h; exact .inr (by simpa using h)
    have HD := Lib.hid hd
    clear hd
    go_enter Tryd.func3, Tryd.ntmps3
    go_wp2_with fail
    refine HS.out.mono ?_
    rintro e w1 ⟨v, rfl, hs, hE1⟩
    obtain ⟨A1, c1, rfl, _, _, _⟩ := hs
    clear HS
    go_wp2_with fail
    refine (trip_ok _ _).mono ?_
    rintro e w2 ⟨v2, rfl, hown2, hE2⟩
    obtain ⟨A2, c2, rfl⟩ := hown2.nil_len
    clear hown2
    go_wp2_with fail
    refine (asks_ok d _ _ HD.out).mono ?_
    rintro e w3 ⟨rfl, hE3⟩
    go_wp2_with fail
    refine (depth_ok _ _).mono ?_
    rintro e w4 ⟨rfl, hE4⟩
    go_wp2_with fail
    refine (known_any _ ((((HL.out.ext hE1).ext hE2).ext hE3).ext hE4)).mono ?_
    rintro e w5 ⟨rfl, hE5⟩
    go_wp2_with fail
    go_ret
    exact ⟨rfl, (((hE1.trans hE2).trans hE3).trans hE4).trans hE5⟩
  · have hc0 : (c == 0) = false := by simpa using hc
    have HC := Lib.hid hc0
    clear hc
    have hcc := beq_int_self c
    have hcd := beq_self' c d
    obtain ⟨zs, hz⟩ : ∃ zs, ys.reverse = zs := ⟨_, rfl⟩
    have HZ := Lib.hid hz
    clear hz
    go_enter Tryd.func3, Tryd.ntmps3
    go_wp2_with fail
    refine HS.out.mono ?_
    rintro e w1 ⟨v, rfl, hs, hE1⟩
    have HS1 := Lib.hid hs
    obtain ⟨A1, c1, rfl, _, _, _⟩ := hs
    clear HS
    go_wp2_with fail
    refine (trip_some c _ ys _ (HL.out.ext hE1) HS1.out HC.out (by omega)).mono ?_
    rintro e w2 ⟨v2, rfl, hown2, hE2⟩
    rw [HZ.out] at hown2
    have HO2 := Lib.hid hown2
    obtain ⟨A2, c2, rfl, _, _, _⟩ := hown2.sl
    clear hown2
    go_wp2_with fail
    refine (turned_any _ ys _ (HS1.out.ext hE2) (by omega)).mono ?_
    rintro e w3 ⟨v3, rfl, hown3, hE3⟩
    rw [HZ.out] at hown3
    have HO3 := Lib.hid hown3
    obtain ⟨A3, c3, rfl, _, _, _⟩ := hown3.sl
    clear hown3
    go_wp2_with fail
    refine (sameInts_any _ _ zs zs _ (SlI.ext (OwnI.sl HO2.out) hE3) (OwnI.sl HO3.out)).mono ?_
    rintro e w4 ⟨rfl, hE4⟩
    rw [eqB_self]
    clear HO2 HO3
    go_wp2_with fail
    refine (asks_some c d _ ys _ (((HS1.out.ext hE2).ext hE3).ext hE4) HC.out).mono ?_
    rintro e w5 ⟨rfl, hE5⟩
    go_wp2_with fail
    refine (asks_some c c _ ys _ ((((HS1.out.ext hE2).ext hE3).ext hE4).ext hE5) HC.out).mono ?_
    rintro e w6 ⟨rfl, hE6⟩
    rw [hcc]
    go_wp2_with fail
    refine (depth_some c _ ys _ (((((HS1.out.ext hE2).ext hE3).ext hE4).ext hE5).ext hE6) HC.out).mono ?_
    rintro e w7 ⟨rfl, hE7⟩
    go_wp2_with fail
    refine (known_any _ (((((((HL.out.ext hE1).ext hE2).ext hE3).ext hE4).ext hE5).ext hE6).ext hE7)).mono ?_
    rintro e w8 ⟨rfl, hE8⟩
    go_wp2_with fail
    go_ret
    exact ⟨rfl, ((((((hE1.trans hE2).trans hE3).trans hE4).trans hE5).trans hE6).trans hE7).trans hE8⟩
end Go.Proofs.YtdhhoicngldfmaaDoor
