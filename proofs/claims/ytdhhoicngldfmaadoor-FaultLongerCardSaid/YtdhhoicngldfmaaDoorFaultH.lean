/- Walks: what every program answers (known). -/
import Derived.Test.YtdhhoicngldfmaaDoorFaultG
namespace Go.Proofs.YtdhhoicngldfmaaDoor
open Go.RowKit

theorem eqB_self (xs : List Int) : eqB xs xs = true := decide_eq_true rfl
theorem OwnI.nil_len {w : World} {B e : Nat} {v : Value} (h : OwnI w B e v []) : ∃ A c, v = .slice A 0 c := by
  obtain ⟨A, c, hv, _⟩ := h.sl
  exact ⟨A, c, hv⟩

set_option maxRecDepth 100000 in
set_option maxHeartbeats 4000000 in
theorem known_any (w : World) (hL : Laid w) : Calls Tryd.prog 10 #[] w (Ret (.bool true) w) := by
  have HL := Lib.hid hL
  clear hL
  go_enter Tryd.func10, Tryd.ntmps10
  go_wp2_with fail
  refine (trip_some 3 _ [3, 7] _ (HL.out.ext ((Ext.refl w).alloc _)) (lit_sl w [3, 7] 3 (by decide)) (by decide) (by decide)).mono ?_
  rintro e w1 ⟨v1, rfl, hown, hE0⟩
  have hE1 : Ext w w1 := ((Ext.refl w).alloc _).trans hE0
  have HO1 := Lib.hid hown
  clear hown hE0
  go_wp2_with fail
  refine (trip_ok _ _).mono ?_
  rintro e w2 ⟨v2, rfl, hown2, hE0⟩
  obtain ⟨A2, c2, rfl⟩ := hown2.nil_len
  have hE12 : Ext w1 w2 := ((Ext.refl w1).alloc _).trans hE0
  clear hown2 hE0
  go_wp2_with fail
  refine (sameInts_any _ _ [7, 3] [7, 3] _ (SlI.ext (OwnI.sl (xs := [7, 3]) (hE12.own HO1.out)) ((Ext.refl w2).alloc _)) (lit_sl w2 [7, 3] 3 (by decide))).mono ?_
  rintro e w3 ⟨rfl, hE0⟩
  have hE3 : Ext w w3 := (hE1.trans hE12).trans (((Ext.refl w2).alloc _).trans hE0)
  clear hE0 hE12 hE1 HO1
  rw [eqB_self]
  go_wp2_with fail
  refine (asks_some 2 2 _ [2] _ (lit_sl w3 [2] 3 (by decide)) (by decide)).mono ?_
  rintro e w4 ⟨rfl, hE0⟩
  have hE4 : Ext w w4 := hE3.trans (((Ext.refl w3).alloc _).trans hE0)
  clear hE0 hE3
  go_wp2_with fail
  refine (asks_some 2 3 _ [] _ SlR.nil_ (by decide)).mono ?_
  rintro e w5 ⟨rfl, hE0⟩
  have hE5 := hE4.trans hE0
  clear hE0 hE4
  go_wp2_with fail
  refine (depth_some 6 _ [1, 2, 3] _ (lit_sl w5 [1, 2, 3] 3 (by decide)) (by decide)).mono ?_
  rintro e w6 ⟨rfl, hE0⟩
  have hE6 : Ext w w6 := hE5.trans (((Ext.refl w5).alloc _).trans hE0)
  clear hE0 hE5
  go_wp2_with fail
  go_ret
  exact ⟨rfl, hE6⟩
end Go.Proofs.YtdhhoicngldfmaaDoor
