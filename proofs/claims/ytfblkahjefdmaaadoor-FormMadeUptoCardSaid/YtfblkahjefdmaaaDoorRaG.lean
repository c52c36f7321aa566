/- Walk: a scan is the document's own one; what is answered is written over. -/
import Derived.Test.YtfblkahjefdmaaaDoorRaF
import Derived.Test.YtfblkahjefdmaaaDoorRaT
namespace Go.Proofs.YtfblkahjefdmaaaDoor
open Go.RowKit

def lstR (R : Option (List FM.Form × Nat)) : List FM.Form := match R with | some p => p.1 | none => []
def plcR (R : Option (List FM.Form × Nat)) : Nat := match R with | some p => p.2 | none => 0
/-- Parts, a place and whether there are any. -/
theorem ScanP.all {R : Option (List FM.Form × Nat)} {w w' : World} {e : Ending} (h : ScanP R w e w') : Ext w w' ∧ ∃ A c, e = .returned (.tuple #[.slice A (lstR R).length c, .int .i64 (plcR R : Int), .bool R.isSome]) ∧ SlB 34 5 (CF w.heap.size) w.heap.size w' (.slice A (lstR R).length c) (lstR R) := by
  obtain ⟨h1, ⟨l, j, A, c, rfl, he, hl⟩ | ⟨rfl, he⟩⟩ := h
  · exact ⟨h1, A, c, he, hl⟩
  · exact ⟨h1, none, 0, he, SlB.nil_⟩
theorem scanAt_may {s : List Int} {a : Int} (h : (scanAt s a).isSome = true) : FM.may (lstR (scanAt s a)) = true := by
  unfold scanAt at h ⊢
  split at h
  · rename_i hc
    rw [if_pos hc]
    rw [Option.isSome_iff_exists] at h
    obtain ⟨⟨l, j⟩, h⟩ := h
    rw [h]
    unfold scanK at h
    exact (FM.scan_ok _ _ _ _ _ _ _ h (FM.all_drop hc.2.2 _) rfl rfl rfl).1
  · cases h
theorem keepsB_cf (B : Nat) : KeepsB B (CF B) := by
  intro w w' cs f hk h
  obtain ⟨vt, ve, h1, h2, h3⟩ := h
  exact ⟨vt, ve, h1, h2.keepB (keepsB_c B) hk, h3.keepB (keepsB_c B) hk⟩
set_option maxRecDepth 100000 in
set_option maxHeartbeats 2000000 in
theorem lsame_any (s : List Int) (vs : Value) (a : Int) (w : World) (hs : SlC w vs s) (hsl : s.length ≤ 900000000) : Calls Tryd.prog 10 #[vs, .int .i64 a] w (Ret (.bool true) w) := by
  have H := Lib.hid hs
  have HLE := Lib.hid (lend_any s vs w hs (by omega))
  obtain ⟨A, ca, rfl, hlx, hcx, -⟩ := id hs
  clear hs
  obtain ⟨R, hR⟩ : ∃ R, scanAt s a = R := ⟨_, rfl⟩
  have HR := Lib.hid hR
  have HMAY := Lib.hid (show R.isSome = true → FM.may (lstR R) = true from fun h => by rw [← hR] at h ⊢; exact scanAt_may h)
  have HSC := Lib.hid (fun v W (hv : SlC W v s) => (scan_any s v a W hv (by omega) (.inl hsl)).mono fun e w' h => (show ScanP R W e w' by rw [← hR]; exact h).all)
  have HRS := Lib.hid (fun v W (hv : SlC W v s) => (rscan_any s v a W hv hsl).mono fun e w' h => (show ScanP R W e w' by rw [← hR]; exact h).all)
  clear hR
  generalize lstR R = l at HMAY HSC HRS
  generalize plcR R = j at HSC HRS
  generalize R.isSome = b at HMAY HSC HRS
  have hbb : (b != b) = false := by cases b <;> rfl
  have hjj : ((j : Int) != (j : Int)) = false := by simp
  go_enter Tryd.func10, Tryd.ntmps10
  go_upto_region 2 with (go_at_call 26; go_loud (refine HLE.out.mono ?_; rintro e w1 ⟨hE1, g, c1, rfl, hc1, ho1⟩; have HE1 := Lib.hid hE1; have HO1 := Lib.hid ho1; clear hE1 hc1 ho1))
  have HX1 := Lib.hid (SlC.front (SlB.slc HO1.out.sl))
  go_upto_region 3 with (go_at_call 21; go_loud (refine (HSC.out _ w1 HX1.out).mono ?_; rintro e w2 ⟨hE2, A2, c2, rfl, hv2⟩; have HE2 := Lib.hid hE2; have HV2 := Lib.hid hv2; clear hE2 hv2))
  go_upto_region 4 with (go_at_call 12; go_loud (refine (HRS.out _ w2 (H.out.ext (HE1.out.trans HE2.out))).mono ?_; rintro e w3 ⟨hE3, A3, c3, rfl, hv3⟩; have HE3 := Lib.hid hE3; have HV3 := Lib.hid hv3; clear hE3 hv3))
  have HSF := Lib.hid (fun W (hW : Ext w3 W) => sameforms_any l _ _ _ _ W ((HV2.out.keep (keeps_cff _) (KeepT.of_ext (HE3.out.trans hW)) (KeepT.of_ext (HE3.out.trans hW)))) (HV3.out.keep (keeps_cff _) (KeepT.of_ext hW) (KeepT.of_ext hW)))
  have HMY := Lib.hid (fun W (hW : Ext w2 W) => may_any l _ _ W (HV2.out.keep (keeps_cff _) (KeepT.of_ext hW) (KeepT.of_ext hW)))
  have HKP := Lib.hid (fun W (hW : Ext w1 W) => kept_any s _ _ g c1 W (H.out.ext (HE1.out.trans hW)) (HO1.out.sl.keep (keeps_c []) (KeepT.of_ext hW) (KeepT.of_ext hW)))
  go_cut [58] (fun s58 wx => s58 = .bool false ∧ Ext w3 wx)
  case first =>
    cases b with
    | false =>
      go_wp2_with (first
        | (go_at_call 22; go_loud (refine (HSF.out _ (Ext.refl _)).mono ?_; rintro e w4 ⟨rfl, hE4⟩; have HE4 := Lib.hid hE4; clear hE4))
        | (go_at_call 27; go_loud (refine (HKP.out _ ((HE2.out.trans HE3.out).trans HE4.out)).mono ?_; rintro e w6 ⟨rfl, hE6⟩)))
      go_meet
      exact ⟨rfl, HE4.out.trans hE6⟩
    | true =>
      go_wp2_with (first
        | (go_at_call 22; go_loud (refine (HSF.out _ (Ext.refl _)).mono ?_; rintro e w4 ⟨rfl, hE4⟩; have HE4 := Lib.hid hE4; clear hE4))
        | (go_at_call 16; go_loud (refine (HMY.out _ (HE3.out.trans HE4.out)).mono ?_; rw [HMAY.out (by simp)]; rintro e w5 ⟨rfl, hE5⟩; have HE5 := Lib.hid (HE4.out.trans hE5); clear hE5))
        | (go_at_call 27; go_loud (refine (HKP.out _ ((HE2.out.trans HE3.out).trans HE5.out)).mono ?_; rintro e w6 ⟨rfl, hE6⟩)))
      go_meet
      exact ⟨rfl, HE5.out.trans hE6⟩
  case rest =>
    obtain ⟨rfl, hE6⟩ := hcut
    have HE6 := Lib.hid hE6
    clear hE6
    have HSP := Lib.hid (lspoil_any w1.heap.size w2.heap.size _ l wc ((HV2.out.imp (fun _ _ hc => hc.cft)).keep (keeps_ft _ _) (KeepT.of_ext (HE3.out.trans HE6.out)) (KeepT.of_ext (HE3.out.trans HE6.out))) HV2.out.blo)
    have HXX := Lib.hid (((HE1.out.trans HE2.out).trans HE3.out).trans HE6.out)
    have HV6 := Lib.hid (HV3.out.keep (keeps_cff _) (KeepT.of_ext HE6.out) (KeepT.of_ext HE6.out))
    go_upto_region 7 with (go_at_call 28; go_loud (refine HSP.out.mono ?_; rintro e w7 ⟨rfl, hr7⟩; have HX7 := Lib.hid (Rng.ext HXX.out hr7 HE1.out.size); have HV7 := Lib.hid (HV6.out.keepB (keepsB_cf _) hr7.keepB); clear hr7))
    go_wp2_with (first
      | (go_at_call 21; go_loud (refine (HSC.out _ w7 (H.out.ext HX7.out)).mono ?_; rintro e w8 ⟨hE8, A8, c8, rfl, hv8⟩; have HE8 := Lib.hid hE8; have HV8 := Lib.hid hv8; clear hE8 hv8))
      | (go_at_call 22; go_loud (refine (sameforms_any l _ _ _ _ w8 HV8.out (HV7.out.keep (keeps_cff _) (KeepT.of_ext HE8.out) (KeepT.of_ext HE8.out))).mono ?_; rintro e w9 ⟨rfl, hE9⟩)))
    go_ret
    exact ⟨rfl, (HX7.out.trans HE8.out).trans hE9⟩
end Go.Proofs.YtfblkahjefdmaaaDoor
