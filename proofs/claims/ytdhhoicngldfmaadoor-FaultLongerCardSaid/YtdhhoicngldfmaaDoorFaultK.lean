/- Walks: FaultLonger. -/
import Derived.Test.YtdhhoicngldfmaaDoorFaultJ
namespace Go.Proofs.YtdhhoicngldfmaaDoor
open Go.RowKit

theorem rev_cut (ys zs : List Int) : ((ys ++ zs).reverse).drop zs.length = ys.reverse := by
  rw [List.reverse_append, List.drop_append_of_le_length (by simp)]
  simp

theorem eqB_of {a b : List Int} (h : a = b) : eqB a b = true := decide_eq_true h

set_option maxRecDepth 100000 in
set_option maxHeartbeats 2000000 in
theorem faultLonger_any (c : Int) (va vb : Value) (xs xs' : List Int) (w : World) (hL : Laid w) (hx : SlI w va xs) (hy : SlI w vb xs') :
    Calls Tryd.prog 4 #[.int .i64 c, va, vb] w (Ret (.bool true) w) := by
  have HL := Lib.hid hL
  have HS := Lib.hid (some_any va xs w hx)
  have HY := Lib.hid hy
  obtain ⟨A0, c0, rfl, _, _, _⟩ := hx
  obtain ⟨B0, d0, rfl, _, _, _⟩ := hy
  clear hL
  have hlen : (some40 xs).length ≤ 40 := by unfold some40; exact List.length_take_le _ _
  have hlen' : (some40 xs').length ≤ 40 := by unfold some40; exact List.length_take_le _ _
  have HS2 := fun W h => Lib.hid (some_any (.slice B0 xs'.length d0) xs' W h)
  generalize some40 xs = ys at HS hlen
  generalize some40 xs' = zs at HS2 hlen'
  have HS2' := Lib.hid HS2
  clear HS2
  by_cases hc : c = 0
  · subst hc
    go_enter Tryd.func4, Tryd.ntmps4
    go_wp2_with fail
    refine HS.out.mono ?_
    rintro e w1 ⟨v, rfl, hs, hE1⟩
    obtain ⟨A1, c1, rfl, _, _, _⟩ := hs
    go_wp2_with fail
    refine (HS2'.out _ (HY.out.ext hE1)).out.mono ?_
    rintro e w2 ⟨v, rfl, hs, hE2⟩
    obtain ⟨A2, c2, rfl, _, _, _⟩ := hs
    go_wp2_with fail
    refine (known_any _ ((HL.out.ext hE1).ext hE2)).mono ?_
    rintro e w3 ⟨rfl, hE3⟩
    go_wp2_with fail
    go_ret
    exact ⟨rfl, (hE1.trans hE2).trans hE3⟩
  · have hc0 : (c == 0) = false := by simpa using hc
    have hcc : (c != c) = false := by simp
    have HC := Lib.hid hc0
    clear hc
    obtain ⟨yr, hyr⟩ : ∃ l, ys.reverse = l := ⟨_, rfl⟩
    obtain ⟨al, hal⟩ : ∃ l, ys ++ zs = l := ⟨_, rfl⟩
    obtain ⟨alr, halr⟩ : ∃ l, (ys ++ zs).reverse = l := ⟨_, rfl⟩
    have hcut : alr.drop zs.length = yr := by rw [← halr, ← hyr]; exact rev_cut ys zs
    have hn1 : yr.length = ys.length := by rw [← hyr]; simp
    have hn2 : alr.length = ys.length + zs.length := by rw [← halr]; simp [Nat.add_comm]
    have hn3 : al.length = ys.length + zs.length := by rw [← hal]; simp
    have halr' : al.reverse = alr := by rw [← hal]; exact halr
    have hall : alr.reverse = al := by rw [← halr', List.reverse_reverse]
    obtain ⟨i0, hi0, _, hi3, _⟩ := info_parts info_int
    have HYR := Lib.hid hyr
    have HAL := Lib.hid hal
    have HCUT := Lib.hid hcut
    have HN1 := Lib.hid hn1
    have HN2 := Lib.hid hn2
    have HN3 := Lib.hid hn3
    have HR := Lib.hid halr'
    have HA2 := Lib.hid hall
    have hb1 : alr.length ≤ 80 := by omega
    have hb2 : al.length ≤ 80 := by omega
    have hb3 : yr.length ≤ 40 := by omega
    clear hyr hal halr hcut hn1 hn2 hn3 halr' hall
    go_enter Tryd.func4, Tryd.ntmps4
    go_wp2_with fail
    refine HS.out.mono ?_
    rintro e w1 ⟨v, rfl, hs, hE1⟩
    have HS1 := Lib.hid hs
    obtain ⟨A1, c1, rfl, _, _, _⟩ := hs
    clear HS
    go_wp2_with fail
    refine (HS2'.out _ (HY.out.ext hE1)).out.mono ?_
    rintro e w2 ⟨v, rfl, hs, hE2⟩
    have HZ2 := Lib.hid hs
    obtain ⟨A2, c2, rfl, _, _, _⟩ := hs
    clear HS2' HY
    go_wp2_with fail
    refine (trip_some c _ ys _ ((HL.out.ext hE1).ext hE2) (HS1.out.ext hE2) HC.out (by omega)).mono ?_
    rintro e w3 ⟨v3, rfl, hown3, hE3⟩
    rw [HYR.out] at hown3
    have HO3 := Lib.hid (OwnI.sl hown3)
    obtain ⟨A3, c3, rfl, _, _, _⟩ := hown3.sl
    clear hown3
    have h12 := hE1.trans hE2
    have h13 := h12.trans hE3
    have hsz3 := h13.size
    go_wp2_with (at_builtin; refine app_ints rfl _ _ rfl w3.heap.size _ _ [] ys (World.ownsRow_nil _ _ _ _) ((HS1.out.ext hE2).ext hE3) rfl rfl (by simp) (by omega) (Nat.le_refl _) ?_)
    intro v4 w4 hown4 hg4
    have hE4 : Ext w3 w4 := (Ext.refl w3).grown hg4 (by intro k hk; cases hk)
    clear hg4
    go_wp2_with (at_builtin; refine app_ints rfl _ _ rfl w3.heap.size _ _ ys zs hown4 ((HZ2.out.ext hE3).ext hE4) rfl rfl (by omega) (by omega) hE4.size ?_)
    intro v5 w5 hown5 hg5
    have hE5 : Ext w3 w5 := hE4.grown hg5 (fun k hk => (hown4.lt k hk).1)
    rw [HAL.out] at hown5
    have HO5 := Lib.hid (OwnI.sl hown5)
    obtain ⟨A5, c5, rfl, _, _, _⟩ := hown5.sl
    clear hg5 hown4 hE4 hown5
    have h15 := h13.trans hE5
    go_wp2_with fail
    refine (trip_some c _ al _ (HL.out.ext h15) HO5.out HC.out (by omega)).mono ?_
    rintro e w6 ⟨v6, rfl, hown6, hE6⟩
    rw [HR.out] at hown6
    have HO6 := Lib.hid hown6
    have HM6 := Lib.hid (OwnI.sl hown6)
    obtain ⟨A6, c6, rfl, hc6, hc6', _⟩ := hown6.sl
    clear hown6
    have hq1 : ((alr.length : Int) != yr.length + zs.length) = false := by have := HN1.out; have := HN2.out; simp; omega
    have hq2 : zs.length ≤ alr.length := by have := HN2.out; omega
    have hcut := SlR.cut HM6.out hq2
    rw [HCUT.out] at hcut
    have HM7 := Lib.hid hcut
    have hsl := run_sl_lo (P := Tryd.prog) Tryd.underlying23 hi0 A6 (n := alr.length) (c := c6) hq2
    clear hcut
    go_wp2_with fail
    refine (sameInts_any _ _ yr yr _ ?_ (((HO3.out.ext hE5).ext hE6))).mono ?_
    · exact HM7.out
    rintro e w7 ⟨rfl, hE7⟩
    rw [eqB_self]
    clear HM6
    have HO7 := Lib.hid (hE7.own HO6.out)
    have HS7 := Lib.hid (HO5.out.ext (hE6.trans hE7))
    have hE57 : Ext w5 w7 := hE6.trans hE7
    clear HO6 HO3 hE6 hE7 hq1 hq2
    go_wp2_with fail
    go_loopg [62] alr.length (fun k i wr => ∃ j : Nat, j + k = alr.length ∧ i = .int .i64 j ∧ Ext w5 wr ∧ ∃ ms : List Int, ms.length = alr.length ∧ wr.ownsRow (w5.heap.size + 1) 3 1 (.slice A6 alr.length c6) alr.length (ms.map (Value.int .i64)))
    case atStart => exact ⟨0, by omega, rfl, hE57, alr, rfl, HO7.out⟩
    case round =>
      obtain ⟨j, hj, rfl, hE8, ms, hms, hown8⟩ := hrel
      by_cases hlt : j < alr.length
      · obtain ⟨g, cap, hv, hgb, _⟩ := hown8.form (by omega)
        injection hv with hA6 _ hcap
        subst hA6 hcap
        obtain ⟨old, hcell⟩ : ∃ old, wr.cell? ⟨g, 0 + j, none⟩ = some (.int .i64 old) := by
          rw [Nat.zero_add]
          exact ⟨_, own_cell hown8 (by rw [List.getElem?_map, List.getElem?_eq_getElem (by omega)]; rfl)⟩
        have hfr : wr.frozen? ⟨g, 0 + j, none⟩ = false := by
          rw [Nat.zero_add]; exact World.ownsRow.frozenAt hown8 j
        obtain ⟨hst, hgr⟩ := World.ownsRow.stored hown8 j (.int .i64 (-1))
        have HST := Lib.hid hst
        have HE8 := Lib.hid (hE8.set (p := ⟨g, j, none⟩) (by show w5.heap.size ≤ g; omega) (.int .i64 (-1)))
        have HMS := Lib.hid hms
        have HJ := Lib.hid hj
        clear hst hgr hms hown8 hj
        rw [Nat.zero_add] at hcell hfr
        go_wp2_with fail
        go_roundg (alr.length - (j + 1))
        case measure => have := HJ.out; omega
        case rel =>
          refine ⟨j + 1, by omega, by go_num, HE8.out, ms.set j (-1), by rw [List.length_set]; exact HMS.out, ?_⟩
          rw [List.map_set]
          exact HST.out
      · have h18 := h15.trans hE8
        have HO8 := Lib.hid (HO5.out.ext hE8)
        clear hown8 hms HS7 HO7
        go_wp2_with fail
        refine (trip_some c _ al _ (HL.out.ext h18) HO8.out HC.out (by omega)).mono ?_
        rintro e w9 ⟨v9, rfl, hown9, hE9⟩
        rw [HR.out] at hown9
        have HO9 := Lib.hid (OwnI.sl hown9)
        obtain ⟨A9, c9, rfl, _, _, _⟩ := hown9.sl
        clear hown9
        go_wp2_with fail
        refine (turned_any _ alr _ HO9.out (by omega)).mono ?_
        rintro e w10 ⟨v10, rfl, hown10, hE10⟩
        rw [HA2.out] at hown10
        have HO10 := Lib.hid (OwnI.sl hown10)
        obtain ⟨A10, c10, rfl, _, _, _⟩ := hown10.sl
        clear hown10
        go_wp2_with fail
        refine (sameInts_any _ _ al al _ HO10.out ((HO8.out.ext hE9).ext hE10)).mono ?_
        rintro e w11 ⟨rfl, hE11⟩
        rw [eqB_self]
        have h911 := (hE9.trans hE10).trans hE11
        have h111 := h18.trans h911
        have h211 : Ext w2 w11 := ((hE3.trans hE5).trans hE8).trans h911
        clear HO9 HO10 hE9 hE10 hE11
        go_wp2_with fail
        refine (depth_some c _ al _ (HO8.out.ext h911) HC.out).mono ?_
        rintro e w12 ⟨rfl, hE12⟩
        go_wp2_with fail
        refine (depth_some c _ ys _ ((HS1.out.ext hE2).ext (h211.trans hE12)) HC.out).mono ?_
        rintro e w13 ⟨rfl, hE13⟩
        go_wp2_with fail
        refine (depth_some c _ zs _ (HZ2.out.ext ((h211.trans hE12).trans hE13)) HC.out).mono ?_
        rintro e w14 ⟨rfl, hE14⟩
        have hq : ((al.length : Int) == ys.length + zs.length) = true := by have := HN3.out; simp; omega
        have h114 := ((h111.trans hE12).trans hE13).trans hE14
        go_wp2_with fail
        refine (known_any _ (HL.out.ext h114)).mono ?_
        rintro e w15 ⟨rfl, hE15⟩
        go_wp2_with fail
        go_ret
        exact ⟨rfl, h114.trans hE15⟩
end Go.Proofs.YtdhhoicngldfmaaDoor
