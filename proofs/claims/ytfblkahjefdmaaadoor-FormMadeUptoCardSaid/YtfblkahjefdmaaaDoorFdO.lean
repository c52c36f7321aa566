/- Walk: what every program answers that reads and writes formats. -/
import Derived.Test.YtfblkahjefdmaaaDoorFdN
import Derived.Test.YtfblkahjefdmaaaDoorFdS
namespace Go.Proofs.YtfblkahjefdmaaaDoor
open Go.RowKit

def L11 : List FM.Form := [⟨1, 1, 0, [], []⟩, ⟨0, 0, 0, [120], []⟩]
theorem known_k1 : scanAt [36, 49, 120, 47] 0 = some (L11, 3) := by kernel_rfl
theorem known_k2 : scanAt [97] 0 = none := by kernel_rfl
theorem known_may : FM.may L11 = true := by decide
theorem known_no : FM.may [⟨0, 0, 0, [], []⟩] = false := by decide
theorem known_print : FM.print L11 = [36, 123, 49, 125, 120] := by decide
theorem known_szs : FM.szs L11 = 62 := rfl

theorem form_nil (W : World) : SlB 34 5 (CF 0) 0 (W.alloc (.cells #[.int .i64 0, .int .i64 0, .int .i64 0, .slice none 0 0, .slice none 0 0] 34)) (.slice (some ⟨W.heap.size, 0, none⟩) 1 1) [(⟨0, 0, 0, [], []⟩ : FM.Form)] := by
  refine OwnB.sl (OwnB.lit (w := W) (base := 0) _ _ _ _ rfl rfl (Nat.zero_le _) (by simp) rfl ?_)
  intro k x hx
  match k, hx with
  | 0, hx =>
    simp at hx; subst hx
    exact ⟨[.int .i64 0, .int .i64 0, .int .i64 0, .slice none 0 0, .slice none 0 0], ⟨_, _, rfl, SlB.nil_, SlB.nil_⟩, rfl, fun i u hu => by simpa using hu⟩
set_option maxRecDepth 100000 in
set_option maxHeartbeats 4000000 in
theorem known11_any (w : World) : Calls Tryd.prog 11 #[] w (Ret (.bool true) w) := by
  go_enter Tryd.func11, Tryd.ntmps11
  go_wp2_with fail
  refine (scan_any [36, 49, 120, 47] _ 0 _ (SlB.slc (lit_c w [36, 49, 120, 47] (Nat.le_refl _) (by decide)).sl) (by decide) (.inl (by decide))).mono ?_
  rw [known_k1]
  rintro e w1 ⟨hE1, ⟨l, j, A, c, hq, rfl, hl⟩ | ⟨hq, -⟩⟩
  rotate_left
  · exact absurd hq (by simp)
  injection hq with hq
  injection hq with hq1 hq2
  subst hq1 hq2
  have HE1 := Lib.hid (((Ext.refl w).alloc _).trans hE1)
  have hl : SlB 34 5 (CF _) _ w1 (.slice A 2 c) L11 := hl
  obtain ⟨g, o, cs, rfl, hc0, h0⟩ := hl.at_ (k := 0) (by decide)
  obtain ⟨g1, o1, cs1, he1, hc1, h1⟩ := hl.at_ (k := 1) (by decide)
  injection he1 with he1
  injection he1 with he1 ho1
  subst he1 ho1
  obtain ⟨A1, c1, A2, c2, rfl, -, -⟩ := hc0.slc
  obtain ⟨B1, d1, B2, d2, rfl, -, -⟩ := hc1.slc
  have k00 := h0 0 (.int .i64 1) rfl
  have k01 := h0 1 (.int .i64 1) rfl
  have k13 := h1 3 (.slice B1 1 d1) rfl
  simp only [Nat.add_zero, Nat.zero_mul, Nat.one_mul] at k00 k01 k13
  have HV := Lib.hid hl
  clear hl hc0 hc1 h0 h1 hE1
  go_wp2_with fail
  refine (print_any L11 _ _ w1 HV.out (by rw [known_szs]; decide)).mono ?_
  rintro e w2 ⟨hE2, ⟨-, A3, c3, rfl, hp⟩ | ⟨hq, -⟩⟩
  rotate_left
  · exact absurd (hq.symm.trans known_may) (by simp)
  rw [known_print] at hp ⊢
  have hp : OwnB 21 1 Cc _ w2 (.slice A3 5 c3) [36, 123, 49, 125, 120] := hp
  have HP := Lib.hid hp.sl
  have HE2 := Lib.hid hE2
  replace k00 := hE2.cell k00
  replace k01 := hE2.cell k01
  replace k13 := hE2.cell k13
  clear hE2 hp
  go_wp2_with fail
  refine (scan_any [97] _ 0 _ (SlB.slc (lit_c w2 [97] (Nat.le_refl _) (by decide)).sl) (by decide) (.inl (by decide))).mono ?_
  rw [known_k2]
  rintro e w3 ⟨hE3, ⟨l, j, A, c, hq, -⟩ | ⟨-, rfl⟩⟩
  · exact absurd hq (by simp)
  have hE23 := ((Ext.refl w2).alloc (.cells ([97].map (Value.int .i32)).toArray 21)).trans hE3
  replace k00 := hE23.cell k00
  replace k01 := hE23.cell k01
  replace k13 := hE23.cell k13
  have hx13 := HE2.out.trans hE23
  have HV3 := Lib.hid (HV.out.keep (keeps_cff _) (KeepT.of_ext hx13) (KeepT.of_ext hx13))
  have HP3 := Lib.hid (HP.out.keep (keeps_c []) (KeepT.of_ext hE23) (KeepT.of_ext hE23))
  have HX := Lib.hid (HE1.out.trans hx13)
  clear hE23 hx13 hE3
  have HSAME := Lib.hid (same_any _ _ [36, 123, 49, 125, 120] [36, 123, 49, 125, 120] (w3.alloc (.cells #[.int .i32 36, .int .i32 123, .int .i32 49, .int .i32 125, .int .i32 120] 21)) ((SlB.slc HP3.out).ext ((Ext.refl w3).alloc _)) (SlB.slc (lit_c w3 [36, 123, 49, 125, 120] (Nat.le_refl _) (by decide)).sl))
  have HM := Lib.hid (fun W (hW : Ext w3 W) => may_any L11 _ _ W (HV3.out.keep (keeps_cff _) (KeepT.of_ext hW) (KeepT.of_ext hW)))
  have hgl := World.block_lt_of_cell? _ _ k00
  have tok1 : True := trivial
  go_wp2_with (first
    | (go_at_call 18; go_loud (refine HSAME.out.mono ?_; rintro e w4 ⟨rfl, hE4⟩; have HE4 := Lib.hid (((Ext.refl w3).alloc _).trans hE4); clear hE4))
    | (go_at_call 16; have _t := tok1; go_loud (refine (HM.out _ HE4.out).mono ?_; rw [known_may]; rintro e w5 ⟨rfl, hE5⟩; have HE5 := Lib.hid (HE4.out.trans hE5); clear hE5 tok1 _t))
    | (go_at_call 16; go_loud (refine (may_any [⟨0, 0, 0, [], []⟩] 0 _ _ (form_nil w5)).mono ?_; rw [known_no]; rintro e w6 ⟨rfl, hE6⟩)))
  go_ret
  exact ⟨rfl, ((HX.out.trans HE5.out).alloc _).trans hE6⟩
end Go.Proofs.YtfblkahjefdmaaaDoor
