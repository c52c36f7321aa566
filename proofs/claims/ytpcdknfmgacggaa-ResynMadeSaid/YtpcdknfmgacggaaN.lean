/- For ResynMadeS: what the texts XRfD XRfE XRfF XRfG XRfH of wip/tpl say. -/
import Derived.Test.YtpcdknfmgacggaaM
import Derived.Deep.RegionHeld3
set_option maxRecDepth 100000
set_option maxHeartbeats 3000000
namespace Go.Proofs.Ytpcdknfmgacggaa
open Go.RowKit
namespace RX
theorem sign_lower {c : Int} {l : List Int} (h : sortR (lower c) = some l) : signR c = none := by
  have hc : c = 100 ∨ c = 119 ∨ c = 115 ∨ c = 68 ∨ c = 87 ∨ c = 83 := by
    by_cases h6 : c = 100 ∨ c = 119 ∨ c = 115 ∨ c = 68 ∨ c = 87 ∨ c = 83
    · exact h6
    · simp only [not_or] at h6
      rw [sort_six (lower_six ⟨h6.1, h6.2.1, h6.2.2.1, h6.2.2.2.1, h6.2.2.2.2.1, h6.2.2.2.2.2⟩)] at h
      cases h
  rcases hc with rfl | rfl | rfl | rfl | rfl | rfl <;> decide
theorem sort_three {c : Int} {l : List Int} (h : sortR c = some l) : (c = 100 ∧ l = [48, 57]) ∨ (c = 119 ∧ l = [97, 122, 65, 90, 48, 57, 95, 95]) ∨ (c = 115 ∧ l = [32, 32, 9, 9, 10, 10]) := by
  unfold sortR at h
  split at h
  · rename_i hc; injection h with h; exact .inl ⟨hc, h.symm⟩
  split at h
  · rename_i hc; injection h with h; exact .inr (.inl ⟨hc, h.symm⟩)
  split at h
  · rename_i hc; injection h with h; exact .inr (.inr ⟨hc, h.symm⟩)
  · cases h
theorem behind_bad {c : Int} (h1 : sortR c = none) (h2 : signR c = none) : (behindM c).2 = true := by
  unfold behindM
  rw [h1]
  simp only
  rcases h3 : sortR (lower c) with _ | l
  · simp only [h2]
  · rfl
theorem behind_sign {c x : Int} (h1 : sortR c = none) (h2 : signR c = some x) : behindM c = ([x, x], false) := by
  unfold behindM
  rw [h1]
  simp only
  rcases h3 : sortR (lower c) with _ | l
  · simp only [h2]
  · rw [sign_lower h3] at h2; cases h2
theorem behind_sort {c : Int} {l : List Int} (h1 : sortR c = some l) : behindM c = (l, false) := by
  unfold behindM
  rw [h1]
/-- The ranges of a member of a class. -/
def memSet (m : Int × Option (List Int) × St) : List Int := match m.2.1 with
  | some l => l
  | none => [m.1, m.1]
/-- Does a member of one sign begin at a place? -/
def singleM (s : List Int) (k : Nat) : Bool := match s[k]? with
  | none => false
  | some c => decide (c ≠ 93) && (decide (c ≠ 92) || (signR ((s[k + 1]?).getD (-1))).isSome)
end RX
/-- A state where something is wrong, as another one tells it. -/
structure Badly (st stf st2 : RX.St) (n : Nat) : Prop where
  code : st2.code = stf.code
  bat : st2.bat = stf.bat
  hi : st2.at_ ≤ n
  op : st2.op = st.op
theorem Badly.ok {st stf st2 : RX.St} {n : Nat} (h : Badly st stf st2 n) : st2.ok = stf.ok := by unfold RX.St.ok; rw [h.code]
/-- What member returns. -/
def MeP (s : List Int) (st : RX.St) (rb : Nat) (sv : Value) (w : World) (e : Ending) (w' : World) : Prop :=
  Only w w' rb ∧ (((RX.member s st).2.2.ok = true ∧ ∃ v, e = .returned (.tuple #[v, .bool (RX.member s st).2.1.isNone]) ∧ SlB 21 1 Cc w.heap.size w' v (RX.memSet (RX.member s st)) ∧ QS rb sv w' (RX.member s st).2.2) ∨
    ((RX.member s st).2.2.ok = false ∧ e = .returned (.tuple #[.slice none 0 0, .bool false]) ∧ ∃ st2, QS rb sv w' st2 ∧ Badly st (RX.member s st).2.2 st2 (st.at_ + 2)))
theorem nxt_pos {s : List Int} (hp : ∀ x ∈ s, 0 ≤ x) (st : RX.St) (k : Nat) : RX.nxt s st k = -1 ∨ 0 ≤ RX.nxt s st k := by
  unfold RX.nxt
  rcases hx : s[st.at_ + k]? with _ | x
  · exact .inl rfl
  · exact .inr (hp x (List.mem_of_getElem? hx))
theorem two_at {B : Nat} {w : World} {A : Option Addr} {n c : Nat} {a b : Int} (h : SlB 21 1 Cc B w (.slice A n c) [a, b]) : ∃ g o, A = some ⟨g, o, none⟩ ∧ w.cell? ⟨g, o, none⟩ = some (.int .i32 a) ∧ w.cell? ⟨g, o + 1, none⟩ = some (.int .i32 b) := by
  obtain ⟨g, o, hA, h0⟩ := SlC.at_ (SlB.slc h) (k := 0) (by simp)
  obtain ⟨g', o', hA', h1⟩ := SlC.at_ (SlB.slc h) (k := 1) (by simp)
  rw [hA] at hA'
  injection hA' with hA'
  injection hA' with e1 e2 _
  subst e1 e2
  exact ⟨g, o, hA, h0, h1⟩
section
variable {w0 : World} {rb : Nat} {sv : Value} {s : List Int}
theorem qmember_any (w1 : World) (st : RX.St) (he : Qn w0 rb sv s w1 st) (hok : st.ok = true) (ha1 : st.at_ ≤ 1000) :
    Calls Try.prog 62 #[.pointer (some ⟨rb, 0, none⟩)] w1 (MeP s st rb sv w1) := by
  have HQ1 := Lib.hid he
  have HO1 := Lib.hid (Only.refl w1 rb)
  have HOK := Lib.hid hok
  obtain ⟨c, hc⟩ : ∃ c, RX.nxt s st 0 = c := ⟨_, rfl⟩
  have HN := Lib.hid hc
  have hcn := nxt_pos he.pos st 0
  rw [hc] at hcn
  have c1 := he.blk.c1
  obtain ⟨m, hm⟩ : ∃ m, RX.member s st = m := ⟨_, rfl⟩
  have HM := Lib.hid hm
  unfold MeP
  rw [hm]
  have hmm : m = if c = -1 ∨ c = 93 then (0, none, st.fail 5 st.at_)
      else if c = 92 then (if RX.sortR (RX.nxt s (st.bump 1) 0) = none ∧ RX.signR (RX.nxt s (st.bump 1) 0) = none then (0, none, (st.bump 1).fail 5 (st.bump 1).at_) else ((RX.signR (RX.nxt s (st.bump 1) 0)).getD 0, RX.sortR (RX.nxt s (st.bump 1) 0), (st.bump 1).bump 1))
      else (c, none, st.bump 1) := by
    rw [← hm, ← hc]; rfl
  clear he hc hok hm
  go_enter Try.func62, Try.ntmps62
  go_wp2_with fail
  go_region_held3 (fun w' => w'.cell? ⟨rb, 1, none⟩ = some (.int .i64 (st.at_ : Int))) (first | go_keep | assumption)
    (first | (go_at_call 37; go_loud (refine (qnext_any _ st (Qn.ex HQ1.out (by first | exact Ext.refl _ | exact (Ext.refl _).drewN _ | exact (Ext.refl _).drew))).mono ?_); go_loud (rw [HN.out]; rintro e w2 ⟨rfl, hx⟩; have hx2 := Ext.trans (show Ext w1 _ from (by first | exact Ext.refl _ | exact (Ext.refl _).drewN _ | exact (Ext.refl _).drew)) hx; have HQ2 := Lib.hid (Qn.ex HQ1.out hx2); have HO2 := Lib.hid (Only.trans HO1.out (Only.of_ext hx2 rb)); have c1 := HQ2.out.blk.c1; clear hx hx2)))
  clear c1
  by_cases h92 : c = 92
  · subst h92
    obtain ⟨d, hd⟩ : ∃ d, RX.nxt s (st.bump 1) 0 = d := ⟨_, rfl⟩
    rw [if_neg (by omega), if_pos rfl, hd] at hmm
    have HD := Lib.hid hd
    clear hd hcn
    have HBE := Lib.hid (fun w h => qbehind_any (w0 := w0) (rb := rb) (sv := sv) (s := s) w st h ha1)
    rw [HD.out] at HBE
    have hbump : (st.bump 1).at_ = st.at_ + 1 := rfl
    by_cases hbad : RX.sortR d = none ∧ RX.signR d = none
    · have hb2 := RX.behind_bad hbad.1 hbad.2
      rw [if_pos hbad] at hmm
      have HB2 := Lib.hid hb2
      have HMM := Lib.hid hmm
      clear hb2 hmm hbad
      go_wp2_with (first
        | (go_at_call 53; go_loud (refine (HBE.out _ HQ2.out).mono ?_; rintro e w3 ⟨v, rfl, hv, hq, ho⟩; rw [HB2.out]; have HQ3 := Lib.hid (Qn.step HQ2.out ho hq); have HO3 := Lib.hid (Only.trans HO2.out ho); obtain ⟨Av, cv, rfl, -⟩ := hv.form; clear hv hq ho))
        | (go_at_call 29; go_loud (refine (qbad_any _ _ 5 ((st.at_ : Int) + 1) HQ3.out).mono ?_; rintro e w4 ⟨rfl, hq, ho⟩; have HQ4 := Lib.hid (Qn.step HQ3.out ho hq); have HO4 := Lib.hid (Only.trans HO3.out ho); have HP4 := Lib.hid ho; clear hq ho)))
      go_ret2
      have hb4 := HQ4.out.blk
      refine ⟨HO4.out, .inr ⟨by rw [HMM.out]; exact RX.St.fail_ok _ (by decide), rfl, _, hb4, ?_⟩⟩
      rw [HMM.out]
      have h0 : st.code = 0 := by have := HOK.out; unfold RX.St.ok at this; exact beq_iff_eq.1 this
      exact ⟨by simp [RX.St.fail, RX.St.bump, h0], by simp [RX.St.fail, RX.St.bump, h0], by rw [RX.St.fail_at]; exact Nat.le_refl _, by rw [RX.St.fail_op]; rfl⟩
    · rw [if_neg hbad] at hmm
      have hok2 : m.2.2.ok = true := by rw [hmm]; exact HOK.out
      have HOK2 := Lib.hid hok2
      have hst : m.2.2 = st.bump 2 := by rw [hmm]; rfl
      have HST := Lib.hid hst
      rcases hs : RX.sortR d with _ | l
      · rcases hg : RX.signR d with _ | x
        · exact absurd ⟨hs, hg⟩ hbad
        have hbx := RX.behind_sign hs hg
        have HR := Lib.hid (show m.2.1 = none ∧ RX.memSet m = [x, x] by rw [hmm]; unfold RX.memSet; rw [hs, hg]; exact ⟨rfl, rfl⟩)
        have HBX := Lib.hid hbx
        clear hmm hbad hok2 hst hs hg hbx
        go_wp2_with (go_at_call 53; go_loud (refine (HBE.out _ HQ2.out).mono ?_; rintro e w3 ⟨v, rfl, hv, hq, ho⟩; rw [HBX.out] at hv ⊢; have HQ3 := Lib.hid (Qn.step HQ2.out ho hq); have HO3 := Lib.hid (Only.trans HO2.out ho); have HV3 := Lib.hid (SlB.weaken hv HO2.out.size); obtain ⟨Av, cv, rfl, -⟩ := hv.form; obtain ⟨g, og, rfl, q0, q1⟩ := two_at hv; clear hv hq ho))
        go_quiet (fail)
        go_wp2_with fail
        go_ret2
        refine ⟨HO3.out.trans (Only.of_ext (by first | exact (Ext.refl _).drewN _ | exact Ext.refl _) rb), .inl ⟨HOK2.out, _, by rw [HR.out.1]; rfl, by rw [HR.out.2]; exact HV3.out.keep (keeps_c []) (KeepT.of_ext (by first | exact (Ext.refl _).drewN _ | exact Ext.refl _)) (KeepT.of_ext (by first | exact (Ext.refl _).drewN _ | exact Ext.refl _)), by rw [HST.out]; exact HQ3.out.blk⟩⟩
      · have hbx := RX.behind_sort hs
        have HR := Lib.hid (show m.2.1.isNone = false ∧ RX.memSet m = l by rw [hmm]; unfold RX.memSet; rw [hs]; exact ⟨rfl, rfl⟩)
        have h3 := RX.sort_three hs
        have HBX := Lib.hid hbx
        clear hmm hbad hok2 hst hs hbx
        rcases h3 with ⟨-, rfl⟩ | ⟨-, rfl⟩ | ⟨-, rfl⟩
        · go_wp2_with (go_at_call 53; go_loud (refine (HBE.out _ HQ2.out).mono ?_; rintro e w3 ⟨v, rfl, hv, hq, ho⟩; rw [HBX.out] at hv ⊢; have HQ3 := Lib.hid (Qn.step HQ2.out ho hq); have HO3 := Lib.hid (Only.trans HO2.out ho); have HV3 := Lib.hid (SlB.weaken hv HO2.out.size); obtain ⟨Av, cv, rfl, -⟩ := hv.form; obtain ⟨g, og, rfl, q0, q1⟩ := two_at hv; clear hv hq ho))
          go_quiet (fail)
          go_wp2_with fail
          go_ret2
          refine ⟨HO3.out.trans (Only.of_ext (by first | exact (Ext.refl _).drewN _ | exact Ext.refl _) rb), .inl ⟨HOK2.out, _, by rw [HR.out.1]; rfl, by rw [HR.out.2]; exact HV3.out.keep (keeps_c []) (KeepT.of_ext (by first | exact (Ext.refl _).drewN _ | exact Ext.refl _)) (KeepT.of_ext (by first | exact (Ext.refl _).drewN _ | exact Ext.refl _)), by rw [HST.out]; exact HQ3.out.blk⟩⟩
        · go_wp2_with (go_at_call 53; go_loud (refine (HBE.out _ HQ2.out).mono ?_; rintro e w3 ⟨v, rfl, hv, hq, ho⟩; rw [HBX.out] at hv ⊢; have HQ3 := Lib.hid (Qn.step HQ2.out ho hq); have HO3 := Lib.hid (Only.trans HO2.out ho); have HV3 := Lib.hid (SlB.weaken hv HO2.out.size); obtain ⟨Av, cv, rfl, -⟩ := hv.form; clear hv hq ho))
          go_quiet (fail)
          go_wp2_with fail
          go_ret2
          refine ⟨HO3.out.trans (Only.of_ext (by first | exact (Ext.refl _).drewN _ | exact Ext.refl _) rb), .inl ⟨HOK2.out, _, by rw [HR.out.1]; rfl, by rw [HR.out.2]; exact HV3.out.keep (keeps_c []) (KeepT.of_ext (by first | exact (Ext.refl _).drewN _ | exact Ext.refl _)) (KeepT.of_ext (by first | exact (Ext.refl _).drewN _ | exact Ext.refl _)), by rw [HST.out]; exact HQ3.out.blk⟩⟩
        · go_wp2_with (go_at_call 53; go_loud (refine (HBE.out _ HQ2.out).mono ?_; rintro e w3 ⟨v, rfl, hv, hq, ho⟩; rw [HBX.out] at hv ⊢; have HQ3 := Lib.hid (Qn.step HQ2.out ho hq); have HO3 := Lib.hid (Only.trans HO2.out ho); have HV3 := Lib.hid (SlB.weaken hv HO2.out.size); obtain ⟨Av, cv, rfl, -⟩ := hv.form; clear hv hq ho))
          go_quiet (fail)
          go_wp2_with fail
          go_ret2
          refine ⟨HO3.out.trans (Only.of_ext (by first | exact (Ext.refl _).drewN _ | exact Ext.refl _) rb), .inl ⟨HOK2.out, _, by rw [HR.out.1]; rfl, by rw [HR.out.2]; exact HV3.out.keep (keeps_c []) (KeepT.of_ext (by first | exact (Ext.refl _).drewN _ | exact Ext.refl _)) (KeepT.of_ext (by first | exact (Ext.refl _).drewN _ | exact Ext.refl _)), by rw [HST.out]; exact HQ3.out.blk⟩⟩
  · have b92 : (c == 92) = false := by simpa using h92
    by_cases hbad : c = -1 ∨ c = 93
    · rw [if_pos hbad] at hmm
      have HMM := Lib.hid hmm
      clear hmm h92
      rcases hbad with rfl | rfl
      all_goals
        clear hcn
        go_wp2_with (go_at_call 29; go_loud (refine (qbad_any _ _ 5 (st.at_ : Int) HQ2.out).mono ?_; rintro e w3 ⟨rfl, hq, ho⟩; have HQ3 := Lib.hid (Qn.step HQ2.out ho hq); have HO3 := Lib.hid (Only.trans HO2.out ho); have HP3 := Lib.hid ho; clear hq ho))
        go_ret2
        have hb4 := HQ3.out.blk
        refine ⟨HO3.out, .inr ⟨by rw [HMM.out]; exact RX.St.fail_ok _ (by decide), rfl, _, hb4, ?_⟩⟩
        rw [HMM.out]
        exact ⟨rfl, rfl, by rw [RX.St.fail_at]; omega, RX.St.fail_op _ _ _⟩
    · rw [if_neg hbad, if_neg h92] at hmm
      have h93 : (c == 93) = false := by simp; omega
      have hneg : decide (c < 0) = false := decide_eq_false (by omega)
      have HMM := Lib.hid hmm
      have HOK2 := Lib.hid (show m.2.2.ok = true by rw [hmm]; exact HOK.out)
      clear hmm h92 hbad hcn
      have c1 := HQ2.out.blk.c1
      have f1 := HQ2.out.blk.fr 1
      go_upto_region 12 with fail
      have HQ3 := Lib.hid (Qn.bump1 HQ2.out)
      have HO3 := Lib.hid (Only.trans HO2.out ((Only.refl w2 rb).set (o := 1) (.int .i64 ((st.at_ : Int) + 1))))
      generalize w2.setCell _ _ = w3 at HQ3 HO3 ⊢
      clear c1 f1
      go_wp2_with fail
      go_ret2
      refine ⟨HO3.out.alloc _, .inl ⟨HOK2.out, _, by rw [HMM.out]; rfl, ?_, ?_⟩⟩
      · rw [HMM.out]
        exact c_lit w3 [c, c] _ _ rfl rfl HO3.out.size (by simp)
      · rw [HMM.out]
        exact ((Ext.refl w3).alloc _).heap HQ3.out.blk
theorem qsingle_any (w1 : World) (st : RX.St) (he : Qn w0 rb sv s w1 st) (k : Nat) (hk : k ≤ 1000) :
    Calls Try.prog 63 #[.pointer (some ⟨rb, 0, none⟩), .int .i64 (k : Int)] w1 (RetE (.bool (RX.singleM s k)) w1) := by
  have HQ1 := Lib.hid he
  have c0 := he.blk.c0
  have HS := Lib.hid (he.sl.ext he.ext)
  have hl60 := he.len
  obtain ⟨A, ca, rfl, hlx, hcx, _⟩ := he.sl
  by_cases hlt : k < s.length
  rotate_left
  · have HV := Lib.hid (show RX.singleM s k = false by unfold RX.singleM; rw [List.getElem?_eq_none (by omega)])
    have hd : decide ((s.length : Int) ≤ (k : Int)) = true := decide_eq_true (by omega)
    clear he
    go_enter Try.func63, Try.ntmps63
    go_wp2_with fail
    go_ret
    exact ⟨ret_congr (by rw [HV.out]; rfl), Ext.refl _⟩
  have hd : decide ((s.length : Int) ≤ (k : Int)) = false := decide_eq_false (by omega)
  have hki : (k : Int) < (s.length : Int) := by omega
  obtain ⟨b, og, rfl, hc⟩ := HS.out.at_ (k := k) hlt
  have hsm : RX.singleM s k = (decide (s[k] ≠ 93) && (decide (s[k] ≠ 92) || (RX.signR ((s[k + 1]?).getD (-1))).isSome)) := by unfold RX.singleM; rw [List.getElem?_eq_getElem hlt]
  generalize s[k] = x at hc hsm
  by_cases h93 : x = 93
  · subst h93
    have HV := Lib.hid (show RX.singleM s k = false by rw [hsm]; rfl)
    clear he hsm
    go_enter Try.func63, Try.ntmps63
    go_wp2_with fail
    go_ret
    exact ⟨ret_congr (by rw [HV.out]; rfl), Ext.refl _⟩
  have b93 : (x == 93) = false := by simpa using h93
  by_cases h92 : x = 92
  rotate_left
  · have HV := Lib.hid (show RX.singleM s k = true by rw [hsm]; simp [h93, h92])
    have b92 : (x != 92) = true := by simpa using h92
    clear he hsm h92 h93
    go_enter Try.func63, Try.ntmps63
    go_wp2_with fail
    go_ret
    exact ⟨ret_congr (by rw [HV.out]; rfl), Ext.refl _⟩
  subst h92
  obtain ⟨d, hdd⟩ : ∃ d, (s[k + 1]?).getD (-1) = d := ⟨_, rfl⟩
  rw [hdd] at hsm
  have hnx : RX.nxt s (RX.St.bump ⟨k, 0, 0, 0, 0⟩ 1) 0 = d := by rw [← hdd]; rfl
  have hx2 := (Ext.refl w1).alloc (.cells #[.slice (some ⟨b, og, none⟩) s.length ca, .int .i64 (k : Int), .int .i64 0, .int .i64 0, .int .i64 0, .int .i64 0] 60)
  have HQ2 := Lib.hid (show Qn w0 w1.heap.size (.slice (some ⟨b, og, none⟩) s.length ca) s (w1.alloc (.cells #[.slice (some ⟨b, og, none⟩) s.length ca, .int .i64 (k : Int), .int .i64 0, .int .i64 0, .int .i64 0, .int .i64 0] 60)) ⟨k, 0, 0, 0, 0⟩ from
    ⟨he.sl, he.ext.size, he.len, he.pos, he.ext.trans hx2, heap_alloc_new w1 _⟩)
  have HX2 := Lib.hid hx2
  have HBE := Lib.hid (fun w h => qbehind_any (w0 := w0) (rb := w1.heap.size) (sv := .slice (some ⟨b, og, none⟩) s.length ca) (s := s) w ⟨k, 0, 0, 0, 0⟩ h hk)
  rw [hnx] at HBE
  have HSM := Lib.hid hsm
  clear he hsm h93 hnx hdd hx2
  have hb2 : RX.singleM s k = (RX.signR d).isSome := by rw [HSM.out]; rfl
  have HB2 := Lib.hid hb2
  clear hb2
  rcases hs : RX.sortR d with _ | l
  · rcases hg : RX.signR d with _ | y
    · have hbad := RX.behind_bad hs hg
      have HBD := Lib.hid hbad
      have HV := Lib.hid (show RX.singleM s k = false by rw [HB2.out, hg]; rfl)
      clear hs hg hbad
      go_enter Try.func63, Try.ntmps63
      go_wp2_with (go_at_call 53; go_loud (refine (HBE.out _ HQ2.out).mono ?_; rintro e w3 ⟨v, rfl, hv, hq, ho⟩; rw [HBD.out]; have HX3 := Lib.hid (Ext.only HX2.out ho (Nat.le_refl _)); obtain ⟨Av, cv, rfl, -⟩ := hv.form; clear hv hq ho))
      go_quiet (fail)
      go_wp2_with fail
      go_ret
      exact ⟨ret_congr (by rw [HV.out]; rfl), HX3.out.trans (by first | exact (Ext.refl _).drewN _ | exact Ext.refl _)⟩
    · have hbx := RX.behind_sign hs hg
      have HBX := Lib.hid hbx
      have HV := Lib.hid (show RX.singleM s k = true by rw [HB2.out, hg]; rfl)
      clear hs hg hbx
      go_enter Try.func63, Try.ntmps63
      go_wp2_with (go_at_call 53; go_loud (refine (HBE.out _ HQ2.out).mono ?_; rintro e w3 ⟨v, rfl, hv, hq, ho⟩; rw [HBX.out] at hv ⊢; have HX3 := Lib.hid (Ext.only HX2.out ho (Nat.le_refl _)); obtain ⟨Av, cv, rfl, -⟩ := hv.form; obtain ⟨g, og2, rfl, q0, q1⟩ := two_at hv; clear hv hq ho))
      go_quiet (fail)
      go_wp2_with fail
      go_ret
      exact ⟨ret_congr (by rw [HV.out]; simp), HX3.out.trans (by first | exact (Ext.refl _).drewN _ | exact Ext.refl _)⟩
  · have hbx := RX.behind_sort hs
    have h3 := RX.sort_three hs
    have HBX := Lib.hid hbx
    have hg : RX.signR d = none := by rcases h3 with ⟨rfl, -⟩ | ⟨rfl, -⟩ | ⟨rfl, -⟩ <;> decide
    have HV := Lib.hid (show RX.singleM s k = false by rw [HB2.out, hg]; rfl)
    clear hs hbx hg
    rcases h3 with ⟨-, rfl⟩ | ⟨-, rfl⟩ | ⟨-, rfl⟩
    · go_enter Try.func63, Try.ntmps63
      go_wp2_with (go_at_call 53; go_loud (refine (HBE.out _ HQ2.out).mono ?_; rintro e w3 ⟨v, rfl, hv, hq, ho⟩; rw [HBX.out] at hv ⊢; have HX3 := Lib.hid (Ext.only HX2.out ho (Nat.le_refl _)); obtain ⟨Av, cv, rfl, -⟩ := hv.form; obtain ⟨g, og2, rfl, q0, q1⟩ := two_at hv; clear hv hq ho))
      go_quiet (fail)
      go_wp2_with fail
      go_ret
      exact ⟨ret_congr (by rw [HV.out]; rfl), HX3.out.trans (by first | exact (Ext.refl _).drewN _ | exact Ext.refl _)⟩
    · go_enter Try.func63, Try.ntmps63
      go_wp2_with (go_at_call 53; go_loud (refine (HBE.out _ HQ2.out).mono ?_; rintro e w3 ⟨v, rfl, hv, hq, ho⟩; rw [HBX.out] at hv ⊢; have HX3 := Lib.hid (Ext.only HX2.out ho (Nat.le_refl _)); obtain ⟨Av, cv, rfl, -⟩ := hv.form; clear hv hq ho))
      go_quiet (fail)
      go_wp2_with fail
      go_ret
      exact ⟨ret_congr (by rw [HV.out]; rfl), HX3.out.trans (by first | exact (Ext.refl _).drewN _ | exact Ext.refl _)⟩
    · go_enter Try.func63, Try.ntmps63
      go_wp2_with (go_at_call 53; go_loud (refine (HBE.out _ HQ2.out).mono ?_; rintro e w3 ⟨v, rfl, hv, hq, ho⟩; rw [HBX.out] at hv ⊢; have HX3 := Lib.hid (Ext.only HX2.out ho (Nat.le_refl _)); obtain ⟨Av, cv, rfl, -⟩ := hv.form; clear hv hq ho))
      go_quiet (fail)
      go_wp2_with fail
      go_ret
      exact ⟨ret_congr (by rw [HV.out]; rfl), HX3.out.trans (by first | exact (Ext.refl _).drewN _ | exact Ext.refl _)⟩
end
namespace RX
/-- A round of the reader's class: in step with the elder one; or something is wrong, and known; or it will be wrong, two places or one further on. -/
inductive Cls (s : List Int) (R : List Int × St) : St → List Int → Bool → Prop
  | sync (k : Nat) (st : St) (set : List Int) : st.ok = true → classLoop s k st set = R → s.length + 1 ≤ k + st.at_ → st.at_ ≤ s.length → st.caps ≤ 9 → Cls s R st set set.isEmpty
  | fail (st : St) (set : List Int) (b : Bool) : st.ok = false → st.code = R.2.code → st.bat = R.2.bat → Cls s R st set b
  | doom1 (st : St) (set : List Int) : st.ok = true → s[st.at_]? = some 45 → s[st.at_ + 1]? = some 92 → sortR ((s[st.at_ + 2]?).getD (-1)) = none → signR ((s[st.at_ + 2]?).getD (-1)) = none → R.2.code = 5 → R.2.bat = (st.at_ + 2 : Nat) → st.caps ≤ 9 → Cls s R st set false
  | doom2 (st : St) (set : List Int) : st.ok = true → s[st.at_]? = some 92 → sortR ((s[st.at_ + 1]?).getD (-1)) = none → signR ((s[st.at_ + 1]?).getD (-1)) = none → R.2.code = 5 → R.2.bat = (st.at_ + 1 : Nat) → st.caps ≤ 9 → Cls s R st set false
section
variable {s : List Int} {R : List Int × St} {st : St} {set : List Int} {b : Bool}
theorem nxt_at {x : Int} {k : Nat} (h : s[st.at_ + k]? = some x) : nxt s st k = x := by unfold nxt; rw [h]; rfl
theorem at_nxt {x : Int} {k : Nat} (h : nxt s st k = x) (hx : x ≠ -1) : s[st.at_ + k]? = some x := by
  unfold nxt at h
  rcases hs : s[st.at_ + k]? with _ | y
  · rw [hs] at h; exact absurd h.symm hx
  · rw [hs] at h; exact congrArg some h
theorem member_none {h : (member s st).2.2.ok = false} (hok : st.ok = true) : (member s st).2.1 = none := by
  unfold member at h ⊢
  simp only at h ⊢
  split
  · rfl
  · rename_i h1
    rw [if_neg h1] at h
    split
    · rename_i h2
      rw [if_pos h2] at h
      split
      · rfl
      · rename_i h3
        rw [if_neg h3] at h
        have h : st.ok = false := h
        rw [hok] at h; cases h
    · rfl
theorem Cls.hi (h : Cls s R st set b) (hok : st.ok = true) : st.at_ ≤ s.length ∧ st.caps ≤ 9 := by
  cases h with
  | sync k _ _ h1 h2 h3 h4 h5 => exact ⟨h4, h5⟩
  | fail _ _ _ h1 => rw [hok] at h1; cases h1
  | doom1 _ _ h1 h2 h3 h4 h5 h6 h7 h8 => exact ⟨Nat.le_of_lt (List.getElem?_eq_some_iff.1 h2).1, h8⟩
  | doom2 _ _ h1 h2 h3 h4 h5 h6 h7 => exact ⟨Nat.le_of_lt (List.getElem?_eq_some_iff.1 h2).1, h7⟩
theorem Cls.exit (h : Cls s R st set false) (hok : st.ok = true) (h93 : nxt s st 0 = 93) : R = (set, st) := by
  generalize hb : false = b at h
  cases h with
  | sync k _ _ h1 h2 h3 h4 h5 =>
    rw [← h2]
    exact classLoop_off (by rw [← hb, h93]; simp)
  | fail _ _ _ h1 => rw [hok] at h1; cases h1
  | doom1 _ _ h1 h2 => rw [nxt_at (k := 0) h2] at h93; cases h93
  | doom2 _ _ h1 h2 => rw [nxt_at (k := 0) h2] at h93; cases h93
theorem member_92 (h : s[st.at_]? = some 92) (h1 : sortR ((s[st.at_ + 1]?).getD (-1)) = none) (h2 : signR ((s[st.at_ + 1]?).getD (-1)) = none) : member s st = (0, none, (st.bump 1).fail 5 (st.at_ + 1 : Nat)) := by
  have hn : nxt s st 0 = 92 := nxt_at (k := 0) h
  have hd : nxt s (st.bump 1) 0 = (s[st.at_ + 1]?).getD (-1) := rfl
  unfold member
  simp only
  rw [hn, if_neg (by decide), if_pos rfl, hd, if_pos ⟨h1, h2⟩]
  rfl
theorem member_45 (h : s[st.at_]? = some 45) : member s st = (45, none, st.bump 1) := by
  have hn : nxt s st 0 = 45 := nxt_at (k := 0) h
  unfold member
  simp only
  rw [hn, if_neg (by decide), if_neg (by decide)]
theorem Cls.bad (h : Cls s R st set b) (hok : st.ok = true) (hin : b = true ∨ nxt s st 0 ≠ 93) (hm : (member s st).2.2.ok = false) : R.2.ok = false ∧ R.2.code = (member s st).2.2.code ∧ R.2.bat = (member s st).2.2.bat := by
  cases h with
  | sync k _ _ h1 h2 h3 h4 h5 =>
    obtain ⟨k, rfl⟩ : ∃ j, k = j + 1 := ⟨k - 1, by omega⟩
    rw [classLoop_on (by rw [hok]; rcases hin with hin | hin <;> simp [hin])] at h2
    have hnone := member_none (h := hm) hok
    have hre : rangeEnd s st = ((member s st).1, (member s st).2.2) := by unfold rangeEnd; rw [hm]; rfl
    rw [classRound_one hnone, hre] at h2
    simp only [hm, Bool.false_eq_true, false_and, if_false] at h2
    rw [classLoop_off (by rw [hm]; rfl)] at h2
    rw [← h2]
    exact ⟨hm, rfl, rfl⟩
  | fail _ _ _ h1 => rw [hok] at h1; cases h1
  | doom1 _ _ h1 h2 =>
    rw [member_45 h2] at hm
    have hm : st.ok = false := hm
    rw [hok] at hm; cases hm
  | doom2 _ _ h1 h2 h3 h4 h5 h6 =>
    have h0 : st.code = 0 := by unfold St.ok at hok; exact beq_iff_eq.1 hok
    rw [member_92 h2 h3 h4]
    refine ⟨by unfold St.ok; rw [h5]; rfl, ?_, ?_⟩
    · rw [h5]; simp [St.fail, St.bump, h0]
    · rw [h6]; simp [St.fail, St.bump, h0]
theorem single_sign {k : Nat} (h : singleM s k = true) : ∃ c, s[k]? = some c ∧ c ≠ 93 ∧ (c = 92 → (signR ((s[k + 1]?).getD (-1))).isSome = true) := by
  unfold singleM at h
  split at h
  · cases h
  · rename_i c hc
    simp only [Bool.and_eq_true, Bool.or_eq_true, decide_eq_true_eq] at h
    exact ⟨c, hc, h.1, fun h92 => h.2.resolve_left (fun h2 => h2 h92)⟩
theorem sign_sort {c x : Int} (h : signR c = some x) : sortR c = none := by
  rcases hs : sortR c with _ | l
  · rfl
  · rcases sort_three hs with ⟨rfl, -⟩ | ⟨rfl, -⟩ | ⟨rfl, -⟩ <;> (exfalso; revert h; decide +revert)
/-- A single member stands at a place. -/
theorem member_single (hok : st.ok = true) (hp : ∀ x ∈ s, 0 ≤ x) (h : singleM s st.at_ = true) : (member s st).2.2.ok = true ∧ (member s st).2.1 = none := by
  obtain ⟨c, hc, h93, h92⟩ := single_sign h
  have hn : nxt s st 0 = c := nxt_at (k := 0) hc
  have hc0 := hp c (List.mem_of_getElem? hc)
  unfold member
  simp only
  rw [hn, if_neg (by omega)]
  by_cases h2 : c = 92
  · have hd : nxt s (st.bump 1) 0 = (s[st.at_ + 1]?).getD (-1) := rfl
    obtain ⟨x, hx⟩ := Option.isSome_iff_exists.1 (h92 h2)
    rw [if_pos h2, hd, if_neg (by rw [hx]; simp)]
    exact ⟨hok, sign_sort hx⟩
  · rw [if_neg h2]
    exact ⟨hok, rfl⟩
theorem ranged_single (hp : ∀ x ∈ s, 0 ≤ x) (h : singleM s (st.at_ + 1) = true) (h45 : nxt s st 0 = 45) : ranged s st = true := by
  obtain ⟨c, hc, h93, h92⟩ := single_sign h
  have hn : nxt s st 1 = c := nxt_at (k := 1) hc
  have hc0 := hp c (List.mem_of_getElem? hc)
  unfold ranged
  rw [if_pos h45]
  simp only
  rw [hn]
  have hc1 : c ≠ -1 := by omega
  by_cases h2 : c = 92
  · obtain ⟨x, hx⟩ := Option.isSome_iff_exists.1 (h92 h2)
    have hd : nxt s st 2 = (s[st.at_ + 1 + 1]?).getD (-1) := rfl
    rw [hd, sign_sort hx]
    simp [hc1, h93]
  · simp [hc1, h93, h2]
/-- Where a range seems to come, but no sign ends it: a backslash that is wrong. -/
theorem ranged_not (h : singleM s (st.at_ + 1) = false) (hr : ranged s st = true) : s[st.at_]? = some 45 ∧ s[st.at_ + 1]? = some 92 ∧ sortR ((s[st.at_ + 2]?).getD (-1)) = none ∧ signR ((s[st.at_ + 2]?).getD (-1)) = none := by
  unfold ranged at hr
  split at hr
  · rename_i h45
    simp only [Bool.and_eq_true, Bool.or_eq_true, decide_eq_true_eq] at hr
    obtain ⟨⟨h1, h93⟩, h92⟩ := hr
    have hc := at_nxt (k := 1) rfl h1
    unfold singleM at h
    rw [hc] at h
    simp only at h
    have hd : nxt s st 2 = (s[st.at_ + 1 + 1]?).getD (-1) := rfl
    rw [hd] at h92
    have h2 : nxt s st 1 = 92 := by
      rcases h92 with h92 | h92
      · exfalso
        rw [decide_eq_true h93, decide_eq_true h92] at h
        cases h
      · by_cases h2 : nxt s st 1 = 92
        · exact h2
        · rw [decide_eq_true h93, decide_eq_true h2] at h; cases h
    have h92 : (sortR ((s[st.at_ + 1 + 1]?).getD (-1))).isNone = true := h92.resolve_left (fun h3 => h3 h2)
    rw [h2] at h hc
    refine ⟨at_nxt (k := 0) h45 (by decide), hc, Option.isNone_iff_eq_none.1 h92, ?_⟩
    rcases hs : signR ((s[st.at_ + 2]?).getD (-1)) with _ | y
    · rfl
    · rw [show st.at_ + 1 + 1 = st.at_ + 2 from rfl, hs] at h; cases h
  · cases hr
theorem Cls.next1 (h : Cls s R st set b) (hok : st.ok = true) (hin : b = true ∨ nxt s st 0 ≠ 93) (hm : (member s st).2.2.ok = true)
    (hr : (member s st).2.1 = none → nxt s (member s st).2.2 0 = 45 → singleM s ((member s st).2.2.at_ + 1) = false) : Cls s R (member s st).2.2 (set ++ memSet (member s st)) false := by
  cases h with
  | sync k _ _ h1 h2 h3 h4 h5 =>
    obtain ⟨k, rfl⟩ : ∃ j, k = j + 1 := ⟨k - 1, by omega⟩
    rw [classLoop_on (by rw [hok]; rcases hin with hin | hin <;> simp [hin])] at h2
    have hf := member_fwd (s := s) h4 h5
    have hmore := member_more (s := s) hm
    have hemp : ∀ l : List Int, 0 < l.length → (set ++ l).isEmpty = false := fun l hl => by cases l with
      | nil => simp at hl
      | cons a t => simp
    rcases hone : (member s st).2.1 with _ | l
    · rcases hrg : ranged s (member s st).2.2 with _ | _
      · have hre : rangeEnd s st = ((member s st).1, (member s st).2.2) := by unfold rangeEnd; rw [hrg, Bool.and_false]; rfl
        rw [classRound_one hone, hre] at h2
        simp only [Int.lt_irrefl, and_false, if_false] at h2
        have hms : memSet (member s st) = [(member s st).1, (member s st).1] := by unfold memSet; rw [hone]
        rw [hms, ← hemp [(member s st).1, (member s st).1] (by simp)]
        exact .sync k _ _ hm h2 (by omega) (hf.okl hm) hf.caps9
      · obtain ⟨q1, q2, q3, q4⟩ := ranged_not (hr hone (by unfold ranged at hrg; split at hrg; assumption; cases hrg)) hrg
        have hre : rangeEnd s st = ((member s ((member s st).2.2.bump 1)).1, (member s ((member s st).2.2.bump 1)).2.2) := by unfold rangeEnd; rw [hrg, hm]; rfl
        have hm2 := member_92 (st := (member s st).2.2.bump 1) q2 q3 q4
        rw [classRound_one hone, hre, hm2] at h2
        have hnok : (((member s st).2.2.bump 1).bump 1 |>.fail 5 (((member s st).2.2.bump 1).at_ + 1 : Nat)).ok = false := St.fail_ok _ (by decide)
        simp only [hnok, Bool.false_eq_true, false_and, if_false] at h2
        rw [classLoop_off (by rw [hnok]; rfl)] at h2
        have h0 : (member s st).2.2.code = 0 := by unfold St.ok at hm; exact beq_iff_eq.1 hm
        refine .doom1 _ _ hm q1 q2 q3 q4 ?_ ?_ hf.caps9
        · rw [← h2]; simp [St.fail, St.bump, h0]
        · rw [← h2]; simp [St.fail, St.bump, h0]; omega
    · have hs := member_sort (s := s) hone
      rw [classRound_sort hone] at h2
      have hms : memSet (member s st) = l := by unfold memSet; rw [hone]
      rw [hms, ← hemp l (by omega)]
      exact .sync k _ _ hm h2 (by omega) (hf.okl hm) hf.caps9
  | fail _ _ _ h1 => rw [hok] at h1; cases h1
  | doom1 _ _ h1 h2 h3 h4 h5 h6 h7 h8 =>
    rw [member_45 h2]
    exact .doom2 _ _ hok h3 h4 h5 h6 h7 h8
  | doom2 _ _ h1 h2 h3 h4 =>
    rw [member_92 h2 h3 h4] at hm
    have := St.fail_ok (c := 5) (b := (st.at_ + 1 : Nat)) (st.bump 1) (by decide)
    rw [this] at hm; cases hm
theorem Cls.next2 (h : Cls s R st set b) (hp : ∀ x ∈ s, 0 ≤ x) (hok : st.ok = true) (hin : b = true ∨ nxt s st 0 ≠ 93) (hm : (member s st).2.2.ok = true) (hone : (member s st).2.1 = none) (h45 : nxt s (member s st).2.2 0 = 45) (hsg : singleM s ((member s st).2.2.at_ + 1) = true) :
    (¬ (member s ((member s st).2.2.bump 1)).1 < (member s st).1 → Cls s R (member s ((member s st).2.2.bump 1)).2.2 (set ++ [(member s st).1, (member s ((member s st).2.2.bump 1)).1]) false) ∧
    ((member s ((member s st).2.2.bump 1)).1 < (member s st).1 → R.2.code = 5 ∧ R.2.bat = st.at_) := by
  have hms := member_single (st := (member s st).2.2.bump 1) hm hp hsg
  cases h with
  | sync k _ _ h1 h2 h3 h4 h5 =>
    obtain ⟨k, rfl⟩ : ∃ j, k = j + 1 := ⟨k - 1, by omega⟩
    rw [classLoop_on (by rw [hok]; rcases hin with hin | hin <;> simp [hin])] at h2
    have hrg := ranged_single hp hsg h45
    have hre : rangeEnd s st = ((member s ((member s st).2.2.bump 1)).1, (member s ((member s st).2.2.bump 1)).2.2) := by unfold rangeEnd; rw [hrg, hm]; rfl
    have hf := rangeEnd_fwd (s := s) h4 h5
    have hmore := rangeEnd_more (s := s) h4 h5 (by rw [hre]; exact hms.1)
    rw [hre] at hf hmore
    rw [classRound_one hone, hre] at h2
    simp only [hms.1, true_and] at h2
    refine ⟨fun hlt => ?_, fun hlt => ?_⟩
    · rw [if_neg hlt] at h2
      have he : (set ++ [(member s st).1, (member s ((member s st).2.2.bump 1)).1]).isEmpty = false := by simp
      rw [← he]
      have hm2 : st.at_ + 1 ≤ (member s ((member s st).2.2.bump 1)).2.2.at_ := hmore
      exact .sync k _ _ hms.1 h2 (by omega) (hf.okl hms.1) hf.caps9
    · rw [if_pos hlt] at h2
      have h0 : (member s ((member s st).2.2.bump 1)).2.2.code = 0 := by have := hms.1; unfold St.ok at this; exact beq_iff_eq.1 this
      rw [classLoop_off (by rw [St.fail_ok _ (by decide)]; rfl)] at h2
      rw [← h2]
      exact ⟨by simp [St.fail, h0], by simp [St.fail, h0]⟩
  | fail _ _ _ h1 => rw [hok] at h1; cases h1
  | doom1 _ _ h1 h2 h3 =>
    rw [member_45 h2] at h45
    have : nxt s (st.bump 1) 0 = 92 := nxt_at (st := st.bump 1) (k := 0) h3
    rw [this] at h45; cases h45
  | doom2 _ _ h1 h2 h3 h4 =>
    rw [member_92 h2 h3 h4] at hm
    have := St.fail_ok (c := 5) (b := (st.at_ + 1 : Nat)) (st.bump 1) (by decide)
    rw [this] at hm; cases hm
theorem memSet_len (st : St) : (memSet (member s st)).length ≤ 8 := by
  unfold memSet
  rcases h : (member s st).2.1 with _ | l
  · simp
  · exact (member_sort (s := s) h).2.1
end
end RX
/-- What a method of the reader returns: as the elder reader where all is well; else the same fault. -/
structure QOut (R : List RX.ReN × RX.St) (st : RX.St) (K : Nat) (D : Int) (N : Nat) (l : List RX.ReN) (st2 : RX.St) : Prop where
  len : l.length ≤ K
  deep : ∀ x ∈ l, 0 ≤ x.deep ∧ x.deep ≤ D
  hi : st2.at_ ≤ N
  op : st2.op = st.op
  good : R.2.ok = true → l = R.1 ∧ st2 = R.2
  bad : R.2.ok = false → st2.code = R.2.code ∧ st2.bat = R.2.bat
theorem QOut.ok {R : List RX.ReN × RX.St} {st : RX.St} {K : Nat} {D : Int} {N : Nat} {l : List RX.ReN} {st2 : RX.St} (h : QOut R st K D N l st2) : st2.ok = R.2.ok := by
  rcases hk : R.2.ok with _ | _
  · have := (h.bad hk).1
    unfold RX.St.ok at hk ⊢
    rw [this]; exact hk
  · rw [(h.good hk).2]; exact hk
def QP (rb : Nat) (sv : Value) (w : World) (R : List RX.ReN × RX.St) (st : RX.St) (K : Nat) (D : Int) (N : Nat) (e : Ending) (w' : World) : Prop :=
  ∃ l v st2, e = .returned v ∧ SlRe w.heap.size w.heap.size w' v l ∧ QS rb sv w' st2 ∧ Only w w' rb ∧ QOut R st K D N l st2
/-- Inside of class: the reader; the set so far. -/
structure Qc (w0 : World) (rb : Nat) (sv : Value) (s : List Int) (w1 : World) (st : RX.St) (v : Value) (set : List Int) (wr : World) : Prop where
  q : Qn w0 rb sv s wr st
  only : Only w1 wr rb
  own : OwnB 21 1 Cc w1.heap.size wr v set
  lt : rb < w1.heap.size
section
variable {w0 w1 wr w' : World} {rb : Nat} {sv v v' : Value} {s : List Int} {st st' : RX.St} {set set' : List Int}
theorem Qc.call (h : Qc w0 rb sv s w1 st v set wr) (ho : Only wr w' rb) (hq : QS rb sv w' st') : Qc w0 rb sv s w1 st' v set w' := ⟨h.q.step ho hq, h.only.trans ho, h.own.low ho h.lt, h.lt⟩
theorem Qc.ex (h : Qc w0 rb sv s w1 st v set wr) (hx : Ext wr w') : Qc w0 rb sv s w1 st v set w' := h.call (Only.of_ext hx rb) (hx.heap h.q.blk)
theorem Qc.bump1 (h : Qc w0 rb sv s w1 st v set wr) : Qc w0 rb sv s w1 (st.bump 1) v set (wr.setCell ⟨rb, 1, none⟩ (.int .i64 ((st.at_ : Int) + 1))) := h.call ((Only.refl _ rb).set _) h.q.bump1.blk
theorem Qc.app (h : Qc w0 rb sv s w1 st v set wr) (h1 : OwnB 21 1 Cc w1.heap.size w' v' set') (h2 : wr.grownBy w' v.ownBlock) : Qc w0 rb sv s w1 st v' set' w' := by
  have hg : ∀ k, v.ownBlock = some k → w1.heap.size ≤ k := fun k hk => (h.own.lt k hk).1
  refine ⟨⟨h.q.sl, h.q.lo, h.q.len, h.q.pos, h.q.ext.grown h2 (fun k hk => by have := hg k hk; have := h.lt; have := h.q.lo; omega), ?_⟩, Only.own (nb := w1.heap.size) h.only h2 hg (Nat.le_refl _), h1, h.lt⟩
  exact (h2.block rb h.q.rbl (by intro e; have := hg rb e.symm; have := h.lt; omega)).trans h.q.blk
end
theorem reQ_lit {B nb : Nat} {w : World} {cs : List Value} {x : RX.ReN} (hnb : nb = w.heap.size) (hb : B ≤ w.heap.size) (h : CR B w cs x) :
    OwnRe B B (w.alloc (.cells cs.toArray 47)) (.slice (some ⟨nb, 0, none⟩) 1 1) [x] := by
  refine OwnB.lit (w := w) cs.toArray [x] _ _ hnb rfl hb (by simp) (by rw [List.size_toArray, h.len]; rfl) ?_
  intro k y hy
  match k, hy with
  | 0, hy =>
    simp at hy; subst hy
    exact ⟨cs, keeps_re B _ _ _ _ (KeepT.of_ext ((Ext.refl w).alloc _)) h, h.len, fun i u hu => by simpa using hu⟩
theorem qset_any (B : Nat) (neg : Bool) (set : List Int) (vs : Value) (w : World) (hs : SlB 21 1 Cc B w vs set) (hb : B ≤ w.heap.size) :
    Calls Try.prog 50 #[.bool neg, vs] w (RetP (fun w' v => SlRe B B w' v [RX.node 2 0 0 false neg set]) w) := by
  have HS := Lib.hid hs
  obtain ⟨A, c, rfl, -⟩ := hs.form
  clear hs
  go_enter Try.func50, Try.ntmps50
  go_wp2_with fail
  go_ret
  exact ⟨_, rfl, (reQ_lit rfl hb (CR.mk HS.out)).sl, (Ext.refl w).alloc _⟩
theorem RX.Cls.failed {s : List Int} {R : List Int × RX.St} {st : RX.St} {set : List Int} {b : Bool} (h : RX.Cls s R st set b) (hok : st.ok = false) : st.code = R.2.code ∧ st.bat = R.2.bat ∧ R.2.ok = false := by
  cases h with
  | sync k _ _ h1 => rw [hok] at h1; cases h1
  | fail _ _ _ h1 h2 h3 => exact ⟨h2, h3, by unfold RX.St.ok at hok ⊢; rw [← h2]; exact hok⟩
  | doom1 _ _ h1 => rw [hok] at h1; cases h1
  | doom2 _ _ h1 => rw [hok] at h1; cases h1
/-- Behind the class: its node. -/
theorem QOut.cls {R : List Int × RX.St} {st st2 : RX.St} {set : List Int} {neg : Bool} {n : Nat} (hop : st2.op = st.op) (hhi : st2.at_ + 1 ≤ n) (h : (R = (set, st2)) ∨ (R.2.ok = false ∧ st2.code = R.2.code ∧ st2.bat = R.2.bat)) :
    QOut ([RX.node 2 0 0 false neg R.1], R.2.bump 1) st 1 0 n [RX.node 2 0 0 false neg set] (st2.bump 1) := by
  refine ⟨by simp, fun x hx => by simp at hx; subst hx; exact ⟨Int.le_refl _, Int.le_refl _⟩, hhi, hop, fun hk => ?_, fun hk => ?_⟩
  · rcases h with rfl | ⟨h1, -⟩
    · exact ⟨rfl, rfl⟩
    · have hk : R.2.ok = true := hk
      rw [h1] at hk; cases hk
  · rcases h with rfl | ⟨-, h2⟩
    · exact ⟨rfl, rfl⟩
    · exact h2
theorem QOut.nil_ {R : List RX.ReN × RX.St} {st st2 : RX.St} {n : Nat} (hop : st2.op = st.op) (hhi : st2.at_ ≤ n) (h0 : R.2.ok = false) (h1 : st2.code = R.2.code) (h2 : st2.bat = R.2.bat) : QOut R st 1 0 n [] st2 :=
  ⟨by simp, by simp, hhi, hop, (fun h => by rw [h0] at h; cases h), fun _ => ⟨h1, h2⟩⟩
section
variable {w0 : World} {rb : Nat} {sv : Value} {s : List Int}
theorem qclass_any (w1 : World) (st : RX.St) (he : Qn w0 rb sv s w1 st) (hok : st.ok = true) (ha : st.at_ < s.length) (h9 : st.caps ≤ 9) :
    Calls Try.prog 52 #[.pointer (some ⟨rb, 0, none⟩)] w1 (QP rb sv w1 (RX.classP s (st.bump 1)) st 1 0 (s.length + 4)) := by
  have hl60 := he.len
  have HPOS := Lib.hid he.pos
  have HC1 := Lib.hid (show Qc w0 rb sv s w1 st (.slice none 0 0) [] w1 from ⟨he, Only.refl _ _, OwnB.nil_, he.rbl⟩)
  obtain ⟨c, hc⟩ : ∃ c, RX.nxt s (st.bump 1) 0 = c := ⟨_, rfl⟩
  obtain ⟨neg, hneg⟩ : ∃ neg, decide (c = 94) = neg := ⟨_, rfl⟩
  obtain ⟨st1, hst1⟩ : ∃ x, (if neg = true then (st.bump 1).bump 1 else st.bump 1) = x := ⟨_, rfl⟩
  obtain ⟨R, hR⟩ : ∃ x, RX.classLoop s (s.length + 2 - st1.at_) st1 [] = x := ⟨_, rfl⟩
  have hcp : RX.classP s (st.bump 1) = ([RX.node 2 0 0 false neg R.1], R.2.bump 1) := by
    unfold RX.classP
    simp only
    rw [hc, hneg, hst1, hR]
  have HCP := Lib.hid hcp
  rw [hcp]
  have h1a : st1.at_ ≤ s.length ∧ st1.caps ≤ 9 ∧ st1.op = st.op ∧ st1.ok = true := by
    rw [← hst1]
    split
    · rename_i h
      have h94 : c = 94 := of_decide_eq_true (hneg.trans h)
      exact ⟨RX.nxt_in (k := 0) (st := st.bump 1) (by rw [hc, h94]; decide), h9, rfl, hok⟩
    · exact ⟨ha, h9, rfl, hok⟩
  have HCLS := Lib.hid (show RX.Cls s R st1 [] true from .sync (s.length + 2 - st1.at_) st1 [] h1a.2.2.2 hR (by omega) h1a.1 h1a.2.1)
  have HN := Lib.hid hc
  have HNEG := Lib.hid hneg
  have HST1 := Lib.hid hst1
  have H1A := Lib.hid h1a
  have h1at : st1.at_ ≤ s.length := h1a.1
  clear he hok hc hst1 hR hcp h1a
  go_enter Try.func52, Try.ntmps52
  have c1 := HC1.out.q.blk.c1
  have f1 := HC1.out.q.blk.fr 1
  go_upto_region 2 with fail
  have HC2 := Lib.hid HC1.out.bump1
  generalize w1.setCell _ _ = w2 at HC2 ⊢
  clear c1 f1
  go_upto_if 21 with (go_at_call 37; go_loud (refine (qnext_any _ _ HC2.out.q).mono ?_; rw [HN.out]; rintro e w3 ⟨rfl, hx⟩; have HC3 := Lib.hid (HC2.out.ex hx); have HX3 := Lib.hid hx; clear hx))
  go_cut [] (fun wx => Qc w0 rb sv s w1 st1 (.slice none 0 0) [] wx)
  case first =>
    by_cases h94 : c = 94
    · have hst : st1 = (st.bump 1).bump 1 := by rw [← HST1.out, ← HNEG.out, decide_eq_true h94, if_pos rfl]
      have HST := Lib.hid hst
      have b94 : (c == 94) = true := by simpa using h94
      have c1 := HC3.out.q.blk.c1
      have f1 := HC3.out.q.blk.fr 1
      have hb1 : (st.bump 1).at_ ≤ 100 := by show st.at_ + 1 ≤ 100; omega
      clear hst h94
      go_wp2_with fail
      go_meet
      rw [HST.out]
      exact HC3.out.bump1
    · have hst : st1 = st.bump 1 := by rw [← HST1.out, ← HNEG.out, decide_eq_false h94]; rfl
      have HST := Lib.hid hst
      have b94 : (c == 94) = false := by simpa using h94
      clear hst h94
      go_wp2_with fail
      go_meet
      rw [HST.out]
      exact HC3.out
  case rest =>
    have HC4 := Lib.hid hcut
    have hbn : (c == 94) = neg := by rw [← HNEG.out]; by_cases h : c = 94 <;> simp [h]
    simp only [hbn]
    clear hcut hbn hneg
    go_wp2_with fail
    go_loopg [4, 5] (s.length + 2 - st1.at_) (fun k v b wr => ∃ (st' : RX.St) (set : List Int) (bb : Bool), b = .bool bb ∧ Qc w0 rb sv s w1 st' v set wr ∧ RX.Cls s R st' set bb ∧ st'.op = st.op ∧ set.length ≤ 8 * st'.at_ ∧ st'.at_ ≤ s.length + 2 ∧ (st'.ok = true → s.length + 1 ≤ k + st'.at_))
    case atStart => exact ⟨st1, [], true, rfl, HC4.out, HCLS.out, H1A.out.2.2.1, by simp, by omega, fun _ => by omega⟩
    case round =>
      obtain ⟨st', set, bb, rfl, hcc, hcls, hop, hsl, hat, hkk⟩ := hrel
      have HC5 := Lib.hid hcc
      have HCL := Lib.hid hcls
      have HOP := Lib.hid hop
      obtain ⟨Ao, co, rfl, -⟩ := hcc.own.form
      rcases hok' : st'.ok with _ | _
      · have HF := Lib.hid (hcls.failed hok')
        have HOK := Lib.hid hok'
        clear hcc hcls hop hkk hok'
        go_upto_region 20 with (go_at_call 28; go_loud (refine (qok_any _ _ HC5.out.q).mono ?_; rw [HOK.out]; rintro e w6 ⟨rfl, hx⟩; have HC6 := Lib.hid (HC5.out.ex hx); have HX6 := Lib.hid hx; clear hx))
        have c1 := HC6.out.q.blk.c1
        have f1 := HC6.out.q.blk.fr 1
        go_upto_region 21 with fail
        have HC7 := Lib.hid HC6.out.bump1
        generalize w6.setCell _ _ = w7 at HC7 ⊢
        clear c1 f1
        go_wp2_with (go_at_call 50; go_loud (refine (qset_any w1.heap.size neg _ _ _ HC7.out.own.sl HC7.out.only.size).mono ?_; rintro e wz ⟨vz, rfl, hvz, hxz⟩; have HVZ := Lib.hid hvz; have HCZ := Lib.hid (HC7.out.ex hxz); clear hvz hxz))
        go_ret
        exact ⟨_, _, _, rfl, HVZ.out, HCZ.out.q.blk, HCZ.out.only, QOut.cls HOP.out (by omega) (.inr ⟨HF.out.2.2, HF.out.1, HF.out.2.1⟩)⟩
      have HOK := Lib.hid hok'
      have hhi := hcls.hi hok'
      have hkk := hkk hok'
      obtain ⟨k, rfl⟩ : ∃ k, gk = k + 1 := ⟨gk - 1, by omega⟩
      have HBAD := Lib.hid (fun (hin : bb = true ∨ RX.nxt s st' 0 ≠ 93) h => hcls.bad hok' hin h)
      have HN1 := Lib.hid (fun (hin : bb = true ∨ RX.nxt s st' 0 ≠ 93) h1 h2 => hcls.next1 hok' hin h1 h2)
      have HN2 := Lib.hid (fun (hin : bb = true ∨ RX.nxt s st' 0 ≠ 93) a1 a2 a3 a4 => hcls.next2 HPOS.out hok' hin a1 a2 a3 a4)
      have HFW := Lib.hid (RX.member_fwd (s := s) hhi.1 hhi.2)
      have HMO := Lib.hid (fun h => RX.member_more (s := s) (st := st') h)
      have HSE := Lib.hid (RX.memSet_len (s := s) st')
      obtain ⟨cn, hcn⟩ : ∃ x, RX.nxt s st' 0 = x := ⟨_, rfl⟩
      have HCN := Lib.hid hcn
      rw [hcn] at HBAD HN1 HN2
      have HME := Lib.hid (fun w h => qmember_any (w0 := w0) (rb := rb) (sv := sv) (s := s) w st' h hok' (by omega))
      unfold MeP at HME
      obtain ⟨m, hm⟩ : ∃ x, RX.member s st' = x := ⟨_, rfl⟩
      rw [hm] at HBAD HN1 HN2 HFW HMO HME HSE
      obtain ⟨x, so, stm⟩ := m
      dsimp only at HBAD HN1 HN2 HFW HMO HME HSE
      clear hcc hop hok' hcn hm
      rcases bb with _ | _
      · by_cases h93 : cn = 93
        · have hRR := hcls.exit HOK.out (HCN.out.trans h93)
          have HRR := Lib.hid hRR
          have b93 : (cn != 93) = false := by simpa using h93
          clear hcls hRR h93
          go_upto_region 20 with (first
            | (go_at_call 28; go_loud (refine (qok_any _ _ HC5.out.q).mono ?_; rw [HOK.out]; rintro e w6 ⟨rfl, hx⟩; have HC6 := Lib.hid (HC5.out.ex hx); have HX6 := Lib.hid hx; clear hx))
            | (go_at_call 37; go_loud (refine (qnext_any _ _ HC6.out.q).mono ?_; rw [HCN.out]; rintro e w7 ⟨rfl, hx⟩; have HC7 := Lib.hid (HC6.out.ex hx); have HX7 := Lib.hid hx; clear hx)))
          have c1 := HC7.out.q.blk.c1
          have f1 := HC7.out.q.blk.fr 1
          go_upto_region 21 with fail
          have HC8 := Lib.hid HC7.out.bump1
          generalize w7.setCell _ _ = w8 at HC8 ⊢
          clear c1 f1
          go_wp2_with (go_at_call 50; go_loud (refine (qset_any w1.heap.size neg _ _ _ HC8.out.own.sl HC8.out.only.size).mono ?_; rintro e wz ⟨vz, rfl, hvz, hxz⟩; have HVZ := Lib.hid hvz; have HCZ := Lib.hid (HC8.out.ex hxz); clear hvz hxz))
          go_ret
          exact ⟨_, _, _, rfl, HVZ.out, HCZ.out.q.blk, HCZ.out.only, QOut.cls HOP.out (by omega) (.inl HRR.out)⟩
        · have hin : false = true ∨ cn ≠ 93 := .inr h93
          have HIN := Lib.hid hin
          have b93 : (cn != 93) = true := by simpa using h93
          clear hcls hin h93
          have c1 := HC5.out.q.blk.c1
          go_upto_region 9 with (first
            | (go_at_call 28; go_loud (refine (qok_any _ _ HC5.out.q).mono ?_; rw [HOK.out]; rintro e w6 ⟨rfl, hx⟩; have HC6 := Lib.hid (HC5.out.ex hx); have HX6 := Lib.hid hx; clear hx))
            | (go_at_call 37; go_loud (refine (qnext_any _ _ HC6.out.q).mono ?_; rw [HCN.out]; rintro e w7 ⟨rfl, hx⟩; have HC7 := Lib.hid (HC6.out.ex hx); have HX7 := Lib.hid hx; clear hx)))
          clear c1 b93
          have c1 := HC7.out.q.blk.c1
          go_upto_region 10 with fail
          clear c1
          go_wp2_with fail
          refine (HME.out _ HC7.out.q).mono ?_
          rintro e wm ⟨ho, hme⟩
          rcases hme with ⟨hmok, vm, rfl, hv, hq⟩ | ⟨hmok, rfl, stb, hq, hbd⟩
          rotate_left
          · have HCM := Lib.hid (HC7.out.call ho hq)
            have HBD := Lib.hid hbd
            have HB := Lib.hid (HBAD.out HIN.out hmok)
            have HOKM := Lib.hid (show stb.ok = false by rw [hbd.ok]; exact hmok)
            clear ho hq hbd hmok
            go_wp2_with (go_at_call 28; go_loud (refine (qok_any _ _ HCM.out.q).mono ?_; rw [HOKM.out]; rintro e wN2 ⟨rfl, hx⟩; have HCN2 := Lib.hid (HCM.out.ex hx); skip; clear hx))
            go_ret
            exact ⟨[], _, stb, rfl, SlB.nil_, HCN2.out.q.blk, HCN2.out.only, QOut.nil_ (HBD.out.op.trans HOP.out) (by have := HBD.out.hi; omega) (show R.2.ok = false from HB.out.1) (HBD.out.code.trans HB.out.2.1.symm) (HBD.out.bat.trans HB.out.2.2.symm)⟩
          have HCM := Lib.hid (HC7.out.call ho hq)
          have HVM := Lib.hid (SlB.weaken hv HC7.out.only.size)
          have HOKM := Lib.hid hmok
          have hmo := HMO.out hmok
          have hmhi := HFW.out.okl hmok
          have HMOP := Lib.hid (HFW.out.op.trans HOP.out)
          have hse := HSE.out
          obtain ⟨Am, cm, rfl, hmc, -⟩ := hv.form
          clear ho hq hv hmok
          rcases so with _ | l
          rotate_left
          · have hml : RX.memSet (x, some l, stm) = l := rfl
            rw [hml] at HVM hmc hse HN1 ⊢
            have HNX := Lib.hid (HN1.out HIN.out HOKM.out (fun h => by cases h))
            clear hml hmc
            go_wp2_with (first
              | (go_at_call 28; go_loud (refine (qok_any _ _ HCM.out.q).mono ?_; rw [HOKM.out]; rintro e wN2 ⟨rfl, hx⟩; have HCN2 := Lib.hid (HCM.out.ex hx); have HVM2 := Lib.hid (HVM.out.keep (keeps_c []) (KeepT.of_ext hx) (KeepT.of_ext hx)); clear hx))
              | (at_builtin; go_loud (refine app_srcC rfl _ _ rfl w1.heap.size _ _ set l HCN2.out.own rfl rfl (SlB.slc HVM2.out) ?hn ?hB ?_; (case hn => (first | omega | (simp only [List.length_cons, List.length_nil]; omega))); (case hB => exact HCN2.out.only.size); intro va wa h1 h2; generalize hsl2 : set ++ l = set2 at h1; have HCA := Lib.hid (HCN2.out.app h1 h2); have HS2 := Lib.hid hsl2; obtain ⟨Aa, ca, rfl, -⟩ := h1.form; clear h1 h2 hsl2)))
            go_roundg k
            case measure => omega
            case rel => exact ⟨stm, set2, false, rfl, HCA.out, by rw [← HS2.out]; exact HNX.out, HMOP.out, by rw [← HS2.out, List.length_append]; omega, by omega, fun _ => by omega⟩
          have hml : RX.memSet (x, none, stm) = [x, x] := rfl
          rw [hml] at HVM hmc hse HN1 ⊢
          obtain ⟨c2, hc2⟩ : ∃ y, RX.nxt s stm 0 = y := ⟨_, rfl⟩
          have HC2N := Lib.hid hc2
          rw [hc2] at HN1 HN2
          clear hml hmc hc2
          by_cases h45 : c2 = 45
          rotate_left
          · have b45 : (c2 == 45) = false := by simpa using h45
            have HNX := Lib.hid (HN1.out HIN.out HOKM.out (fun _ h => absurd h h45))
            clear h45
            go_wp2_with (first
              | (go_at_call 28; go_loud (refine (qok_any _ _ HCM.out.q).mono ?_; rw [HOKM.out]; rintro e wN2 ⟨rfl, hx⟩; have HCN2 := Lib.hid (HCM.out.ex hx); have HVM2 := Lib.hid (HVM.out.keep (keeps_c []) (KeepT.of_ext hx) (KeepT.of_ext hx)); clear hx))
              | (go_at_call 37; go_loud (refine (qnext_any _ _ HCN2.out.q).mono ?_; rw [HC2N.out]; rintro e wP2 ⟨rfl, hx⟩; have HCP2 := Lib.hid (HCN2.out.ex hx); have HVM3 := Lib.hid (HVM2.out.keep (keeps_c []) (KeepT.of_ext hx) (KeepT.of_ext hx)); clear hx))
              | (at_builtin; go_loud (refine app_srcC rfl _ _ rfl w1.heap.size _ _ set [x, x] HCP2.out.own rfl rfl (SlB.slc HVM3.out) ?hn ?hB ?_; (case hn => (first | omega | (simp only [List.length_cons, List.length_nil]; omega))); (case hB => exact HCP2.out.only.size); intro va wa h1 h2; generalize hsl2 : set ++ [x, x] = set2 at h1; have HCA := Lib.hid (HCP2.out.app h1 h2); have HS2 := Lib.hid hsl2; obtain ⟨Aa, ca, rfl, -⟩ := h1.form; clear h1 h2 hsl2)))
            go_roundg k
            case measure => omega
            case rel => exact ⟨stm, set2, false, rfl, HCA.out, by rw [← HS2.out]; exact HNX.out, HMOP.out, by rw [← HS2.out, List.length_append]; simp only [List.length_cons, List.length_nil]; omega, by omega, fun _ => by omega⟩
          have b45 : (c2 == 45) = true := by simpa using h45
          have HSI := Lib.hid (fun w h => (show Calls Try.prog 63 #[.pointer (some ⟨rb, 0, none⟩), .int .i64 ((stm.at_ : Int) + 1)] w (RetE (.bool (RX.singleM s (stm.at_ + 1))) w) from qsingle_any (w0 := w0) (sv := sv) w stm h (stm.at_ + 1) (by omega)))
          rcases hsg : RX.singleM s (stm.at_ + 1) with _ | _
          · have HSG := Lib.hid hsg
            have HNX := Lib.hid (HN1.out HIN.out HOKM.out (fun _ _ => hsg))
            rw [hsg] at HSI
            clear h45 hsg
            go_upto_region 13 with (go_at_call 28; go_loud (refine (qok_any _ _ HCM.out.q).mono ?_; rw [HOKM.out]; rintro e wN2 ⟨rfl, hx⟩; have HCN2 := Lib.hid (HCM.out.ex hx); have HVM2 := Lib.hid (HVM.out.keep (keeps_c []) (KeepT.of_ext hx) (KeepT.of_ext hx)); clear hx))
            have c1 := HCN2.out.q.blk.c1
            go_wp2_with (first
              | (go_at_call 37; go_loud (refine (qnext_any _ _ HCN2.out.q).mono ?_; rw [HC2N.out]; rintro e wP2 ⟨rfl, hx⟩; have HCP2 := Lib.hid (HCN2.out.ex hx); have c1 := HCP2.out.q.blk.c1; have HVM3 := Lib.hid (HVM2.out.keep (keeps_c []) (KeepT.of_ext hx) (KeepT.of_ext hx)); clear hx))
              | (go_at_call 63; go_loud (refine (HSI.out _ HCP2.out.q).mono ?_; rintro e wQ2 ⟨rfl, hx⟩; have HCQ2 := Lib.hid (HCP2.out.ex hx); have HVM4 := Lib.hid (HVM3.out.keep (keeps_c []) (KeepT.of_ext hx) (KeepT.of_ext hx)); clear hx))
              | (at_builtin; go_loud (refine app_srcC rfl _ _ rfl w1.heap.size _ _ set [x, x] HCQ2.out.own rfl rfl (SlB.slc HVM4.out) ?hn ?hB ?_; (case hn => (first | omega | (simp only [List.length_cons, List.length_nil]; omega))); (case hB => exact HCQ2.out.only.size); intro va wa h1 h2; generalize hsl2 : set ++ [x, x] = set2 at h1; have HCA := Lib.hid (HCQ2.out.app h1 h2); have HS2 := Lib.hid hsl2; obtain ⟨Aa, ca, rfl, -⟩ := h1.form; clear h1 h2 hsl2)))
            go_roundg k
            case measure => omega
            case rel => exact ⟨stm, set2, false, rfl, HCA.out, by rw [← HS2.out]; exact HNX.out, HMOP.out, by rw [← HS2.out, List.length_append]; simp only [List.length_cons, List.length_nil]; omega, by omega, fun _ => by omega⟩
          have HN2X := Lib.hid (HN2.out HIN.out HOKM.out rfl h45 hsg)
          rw [hsg] at HSI
          have hstlt : stm.at_ + 1 ≤ s.length := by
            obtain ⟨cc, hcc2, -⟩ := RX.single_sign hsg
            exact Nat.le_of_lt (List.getElem?_eq_some_iff.1 hcc2).1
          have hms := RX.member_single (s := s) (st := stm.bump 1) HOKM.out HPOS.out hsg
          have HFW2 := Lib.hid (RX.member_fwd (s := s) (st := stm.bump 1) hstlt HFW.out.caps9)
          have HMO2 := Lib.hid (RX.member_more (s := s) (st := stm.bump 1) hms.1)
          have HME2 := Lib.hid (fun w h => qmember_any (w0 := w0) (rb := rb) (sv := sv) (s := s) w (stm.bump 1) h HOKM.out (by show stm.at_ + 1 ≤ 1000; omega))
          unfold MeP at HME2
          obtain ⟨m2, hm2⟩ : ∃ y, RX.member s (stm.bump 1) = y := ⟨_, rfl⟩
          rw [hm2] at HN2X hms HFW2 HMO2 HME2
          obtain ⟨y, so2, st4⟩ := m2
          dsimp only at HN2X hms HFW2 HMO2 HME2
          obtain ⟨hok4, rfl⟩ := hms
          have HOK4 := Lib.hid hok4
          have h4hi := HFW2.out.okl hok4
          have h4mo : stm.at_ + 2 ≤ st4.at_ := HMO2.out
          have HOP4 := Lib.hid ((HFW2.out.op).trans HMOP.out)
          clear h45 hsg hm2 hstlt hok4
          go_upto_region 13 with (go_at_call 28; go_loud (refine (qok_any _ _ HCM.out.q).mono ?_; rw [HOKM.out]; rintro e wN2 ⟨rfl, hx⟩; have HCN2 := Lib.hid (HCM.out.ex hx); have HVM2 := Lib.hid (HVM.out.keep (keeps_c []) (KeepT.of_ext hx) (KeepT.of_ext hx)); clear hx))
          have c1 := HCN2.out.q.blk.c1
          go_upto_region 14 with (first
            | (go_at_call 37; go_loud (refine (qnext_any _ _ HCN2.out.q).mono ?_; rw [HC2N.out]; rintro e wP2 ⟨rfl, hx⟩; have HCP2 := Lib.hid (HCN2.out.ex hx); have c1 := HCP2.out.q.blk.c1; have HVM3 := Lib.hid (HVM2.out.keep (keeps_c []) (KeepT.of_ext hx) (KeepT.of_ext hx)); clear hx))
            | (go_at_call 63; go_loud (refine (HSI.out _ HCP2.out.q).mono ?_; rintro e wQ2 ⟨rfl, hx⟩; have HCQ2 := Lib.hid (HCP2.out.ex hx); have HVM4 := Lib.hid (HVM3.out.keep (keeps_c []) (KeepT.of_ext hx) (KeepT.of_ext hx)); clear hx)))
          clear c1
          have c1 := HCQ2.out.q.blk.c1
          have f1 := HCQ2.out.q.blk.fr 1
          go_upto_region 15 with fail
          have HCR := Lib.hid HCQ2.out.bump1
          have HVM5 := Lib.hid (HVM4.out.keepB (keepsB_c _) (KeepB.low ((Only.refl wQ2 rb).set (o := 1) (.int .i64 ((stm.at_ : Int) + 1))) HC1.out.lt))
          generalize wQ2.setCell _ _ = wR at HCR HVM5 ⊢
          clear c1 f1
          go_wp2_with fail
          refine (HME2.out _ HCR.out.q).mono ?_
          rintro e wS ⟨ho, hme⟩
          obtain ⟨vS, rfl, hvS, hqS⟩ : ∃ v, e = .returned (.tuple #[v, .bool (none : Option (List Int)).isNone]) ∧ SlB 21 1 Cc wR.heap.size wS v (RX.memSet (y, none, st4)) ∧ QS rb sv wS st4 := by
            rcases hme with ⟨-, h⟩ | ⟨h, -⟩
            · exact h
            · rw [HOK4.out] at h; cases h
          have hml : RX.memSet (y, none, st4) = [y, y] := rfl
          rw [hml] at hvS
          have HCS := Lib.hid (HCR.out.call ho hqS)
          have HVM6 := Lib.hid (HVM5.out.keepB (keepsB_c _) (KeepB.low ho HC1.out.lt))
          have HVS := Lib.hid hvS
          obtain ⟨AS, cS, rfl, -⟩ := hvS.form
          obtain ⟨g1, o1, rfl, q1, -⟩ := two_at HVM6.out
          obtain ⟨g2, o2, rfl, q2, -⟩ := two_at HVS.out
          clear ho hme hvS hqS hml
          go_upto_region 16 with fail
          have hb1 : w1.heap.size ≤ g1 := by obtain ⟨_, _, hv, _, _, _, hA⟩ := HVM6.out; injection hv with e1 _ _; obtain ⟨_, _, _, e2, e3, _⟩ := hA _ e1.symm; injection e2 with e2 _ _; omega
          have hb2 : w1.heap.size ≤ g2 := by obtain ⟨_, _, hv, _, _, _, hA⟩ := HVS.out; injection hv with e1 _ _; obtain ⟨_, _, _, e2, e3, _⟩ := hA _ e1.symm; injection e2 with e2 _ _; have := HCR.out.only.size; omega
          have hrb := HC1.out.lt
          by_cases hyx : y < x
          · have hd : decide (y < x) = true := decide_eq_true hyx
            have HB2 := Lib.hid (HN2X.out.2 hyx)
            clear hyx
            go_quiet (fail)
            go_upto_region 17 with fail
            generalize hT : wS.drewN _ = wT
            have hxT : Ext wS wT := by rw [← hT]; exact (Ext.refl _).drewN _
            have HCT := Lib.hid (HCS.out.ex hxT)
            replace q1 := hxT.cell q1
            replace q2 := hxT.cell q2
            clear hT hxT
            go_upto_region 18 with (go_at_call 29; go_loud (refine (qbad_any _ _ 5 (st'.at_ : Int) HCT.out.q).mono ?_; rintro e wU ⟨rfl, hq, ho⟩; have HCU := Lib.hid (HCT.out.call ho hq); have HYU := Lib.hid ho; clear hq ho))
            replace q1 := World.grownBy.cell HYU.out q1 (by intro e; injection e with e; simp only at e; omega)
            replace q2 := World.grownBy.cell HYU.out q2 (by intro e; injection e with e; simp only at e; omega)
            go_region_held3 (fun w' => w'.cell? ⟨g1, o1, none⟩ = some (.int .i32 x) ∧ w'.cell? ⟨g2, o2, none⟩ = some (.int .i32 y)) (first | go_keep | (go_split_ands; refine ⟨?_, ?_⟩ <;> assumption)) (fail)
            have HFK := Lib.hid (show (st4.fail 5 st'.at_).ok = false ∧ (st4.fail 5 st'.at_).code = R.2.code ∧ (st4.fail 5 st'.at_).bat = R.2.bat from by
              have hk4 : st4.code = 0 := by simpa [RX.St.ok] using HOK4.out
              refine ⟨?_, ?_, ?_⟩
              · simp [RX.St.fail, RX.St.ok, hk4]
              · rw [HB2.out.1]; simp [RX.St.fail, hk4]
              · rw [HB2.out.2]; simp [RX.St.fail, hk4])
            have hfo : (st4.fail 5 st'.at_).op = st4.op := by unfold RX.St.fail; split <;> rfl
            have hfa : (st4.fail 5 st'.at_).at_ = st4.at_ := by unfold RX.St.fail; split <;> rfl
            have hxL : Ext wU (wU.alloc (.cells #[.int .i32 x, .int .i32 y] 21)).drew := ((Ext.refl _).alloc _).drew
            have HCL2 := Lib.hid (HCU.out.ex hxL)
            have HVL := Lib.hid (show SlC (wU.alloc (.cells #[.int .i32 x, .int .i32 y] 21)).drew (.slice (some ⟨wU.heap.size, 0, none⟩) 2 2) [x, y] from (SlB.slc (c_lit (B := 0) wU [x, y] _ _ rfl rfl (Nat.zero_le _) (by simp))).ext (Ext.drew (Ext.refl _)))
            clear hxL
            generalize (wU.alloc _).drew = wL at HCL2 HVL ⊢
            generalize wU.heap.size = nl at HVL ⊢
            go_wp2_with (at_builtin; go_loud (refine app_srcC rfl _ _ rfl w1.heap.size _ _ set [x, y] HCL2.out.own rfl rfl HVL.out ?hn ?hB ?_; (case hn => (first | omega | (simp only [List.length_cons, List.length_nil]; omega))); (case hB => exact HCL2.out.only.size); intro va wa h1 h2; generalize hsl2 : set ++ [x, y] = set2 at h1; have HCA := Lib.hid (HCL2.out.app h1 h2); have HS2 := Lib.hid hsl2; obtain ⟨Aa, ca, rfl, -⟩ := h1.form; clear h1 h2 hsl2))
            go_roundg k
            case measure => omega
            case rel => exact ⟨st4.fail 5 st'.at_, set2, false, rfl, HCA.out, by rw [← HS2.out]; exact .fail _ _ _ HFK.out.1 HFK.out.2.1 HFK.out.2.2, hfo.trans HOP4.out, by rw [← HS2.out, List.length_append]; simp only [List.length_cons, List.length_nil]; omega, by omega, fun h => by omega⟩
          · have hd : decide (y < x) = false := decide_eq_false hyx
            have HB2 := Lib.hid (HN2X.out.1 (by omega))
            clear hyx
            go_quiet (fail)
            go_upto_region 18 with fail
            generalize hT : wS.drewN _ = wU
            have hxT : Ext wS wU := by rw [← hT]; exact (Ext.refl _).drewN _
            have HCU := Lib.hid (HCS.out.ex hxT)
            replace q1 := hxT.cell q1
            replace q2 := hxT.cell q2
            clear hT hxT
            go_region_held3 (fun w' => w'.cell? ⟨g1, o1, none⟩ = some (.int .i32 x) ∧ w'.cell? ⟨g2, o2, none⟩ = some (.int .i32 y)) (first | go_keep | (go_split_ands; refine ⟨?_, ?_⟩ <;> assumption)) (fail)
            have hxL : Ext wU (wU.alloc (.cells #[.int .i32 x, .int .i32 y] 21)).drew := ((Ext.refl _).alloc _).drew
            have HCL2 := Lib.hid (HCU.out.ex hxL)
            have HVL := Lib.hid (show SlC (wU.alloc (.cells #[.int .i32 x, .int .i32 y] 21)).drew (.slice (some ⟨wU.heap.size, 0, none⟩) 2 2) [x, y] from (SlB.slc (c_lit (B := 0) wU [x, y] _ _ rfl rfl (Nat.zero_le _) (by simp))).ext (Ext.drew (Ext.refl _)))
            clear hxL
            generalize (wU.alloc _).drew = wL at HCL2 HVL ⊢
            generalize wU.heap.size = nl at HVL ⊢
            go_wp2_with (at_builtin; go_loud (refine app_srcC rfl _ _ rfl w1.heap.size _ _ set [x, y] HCL2.out.own rfl rfl HVL.out ?hn ?hB ?_; (case hn => (first | omega | (simp only [List.length_cons, List.length_nil]; omega))); (case hB => exact HCL2.out.only.size); intro va wa h1 h2; generalize hsl2 : set ++ [x, y] = set2 at h1; have HCA := Lib.hid (HCL2.out.app h1 h2); have HS2 := Lib.hid hsl2; obtain ⟨Aa, ca, rfl, -⟩ := h1.form; clear h1 h2 hsl2))
            go_roundg k
            case measure => omega
            case rel => exact ⟨st4, set2, false, rfl, HCA.out, by rw [← HS2.out]; exact HB2.out, HOP4.out, by rw [← HS2.out, List.length_append]; simp only [List.length_cons, List.length_nil]; omega, by omega, fun h => by omega⟩
      · have hin : true = true ∨ cn ≠ 93 := .inl rfl
        have HIN := Lib.hid hin
        clear hcls hin
        go_upto_region 9 with (go_at_call 28; go_loud (refine (qok_any _ _ HC5.out.q).mono ?_; rw [HOK.out]; rintro e w6 ⟨rfl, hx⟩; have HC6 := Lib.hid (HC5.out.ex hx); have HX6 := Lib.hid hx; clear hx))
        have HC7 := HC6
        obtain ⟨w7, hw7⟩ : ∃ x, x = w6 := ⟨_, rfl⟩
        subst hw7
        have c1 := HC7.out.q.blk.c1
        go_upto_region 10 with fail
        clear c1
        go_wp2_with fail
        refine (HME.out _ HC7.out.q).mono ?_
        rintro e wm ⟨ho, hme⟩
        rcases hme with ⟨hmok, vm, rfl, hv, hq⟩ | ⟨hmok, rfl, stb, hq, hbd⟩
        rotate_left
        · have HCM := Lib.hid (HC7.out.call ho hq)
          have HBD := Lib.hid hbd
          have HB := Lib.hid (HBAD.out HIN.out hmok)
          have HOKM := Lib.hid (show stb.ok = false by rw [hbd.ok]; exact hmok)
          clear ho hq hbd hmok
          go_wp2_with (go_at_call 28; go_loud (refine (qok_any _ _ HCM.out.q).mono ?_; rw [HOKM.out]; rintro e wN2 ⟨rfl, hx⟩; have HCN2 := Lib.hid (HCM.out.ex hx); skip; clear hx))
          go_ret
          exact ⟨[], _, stb, rfl, SlB.nil_, HCN2.out.q.blk, HCN2.out.only, QOut.nil_ (HBD.out.op.trans HOP.out) (by have := HBD.out.hi; omega) (show R.2.ok = false from HB.out.1) (HBD.out.code.trans HB.out.2.1.symm) (HBD.out.bat.trans HB.out.2.2.symm)⟩
        have HCM := Lib.hid (HC7.out.call ho hq)
        have HVM := Lib.hid (SlB.weaken hv HC7.out.only.size)
        have HOKM := Lib.hid hmok
        have hmo := HMO.out hmok
        have hmhi := HFW.out.okl hmok
        have HMOP := Lib.hid (HFW.out.op.trans HOP.out)
        have hse := HSE.out
        obtain ⟨Am, cm, rfl, hmc, -⟩ := hv.form
        clear ho hq hv hmok
        rcases so with _ | l
        rotate_left
        · have hml : RX.memSet (x, some l, stm) = l := rfl
          rw [hml] at HVM hmc hse HN1 ⊢
          have HNX := Lib.hid (HN1.out HIN.out HOKM.out (fun h => by cases h))
          clear hml hmc
          go_wp2_with (first
            | (go_at_call 28; go_loud (refine (qok_any _ _ HCM.out.q).mono ?_; rw [HOKM.out]; rintro e wN2 ⟨rfl, hx⟩; have HCN2 := Lib.hid (HCM.out.ex hx); have HVM2 := Lib.hid (HVM.out.keep (keeps_c []) (KeepT.of_ext hx) (KeepT.of_ext hx)); clear hx))
            | (at_builtin; go_loud (refine app_srcC rfl _ _ rfl w1.heap.size _ _ set l HCN2.out.own rfl rfl (SlB.slc HVM2.out) ?hn ?hB ?_; (case hn => (first | omega | (simp only [List.length_cons, List.length_nil]; omega))); (case hB => exact HCN2.out.only.size); intro va wa h1 h2; generalize hsl2 : set ++ l = set2 at h1; have HCA := Lib.hid (HCN2.out.app h1 h2); have HS2 := Lib.hid hsl2; obtain ⟨Aa, ca, rfl, -⟩ := h1.form; clear h1 h2 hsl2)))
          go_roundg k
          case measure => omega
          case rel => exact ⟨stm, set2, false, rfl, HCA.out, by rw [← HS2.out]; exact HNX.out, HMOP.out, by rw [← HS2.out, List.length_append]; omega, by omega, fun _ => by omega⟩
        have hml : RX.memSet (x, none, stm) = [x, x] := rfl
        rw [hml] at HVM hmc hse HN1 ⊢
        obtain ⟨c2, hc2⟩ : ∃ y, RX.nxt s stm 0 = y := ⟨_, rfl⟩
        have HC2N := Lib.hid hc2
        rw [hc2] at HN1 HN2
        clear hml hmc hc2
        by_cases h45 : c2 = 45
        rotate_left
        · have b45 : (c2 == 45) = false := by simpa using h45
          have HNX := Lib.hid (HN1.out HIN.out HOKM.out (fun _ h => absurd h h45))
          clear h45
          go_wp2_with (first
            | (go_at_call 28; go_loud (refine (qok_any _ _ HCM.out.q).mono ?_; rw [HOKM.out]; rintro e wN2 ⟨rfl, hx⟩; have HCN2 := Lib.hid (HCM.out.ex hx); have HVM2 := Lib.hid (HVM.out.keep (keeps_c []) (KeepT.of_ext hx) (KeepT.of_ext hx)); clear hx))
            | (go_at_call 37; go_loud (refine (qnext_any _ _ HCN2.out.q).mono ?_; rw [HC2N.out]; rintro e wP2 ⟨rfl, hx⟩; have HCP2 := Lib.hid (HCN2.out.ex hx); have HVM3 := Lib.hid (HVM2.out.keep (keeps_c []) (KeepT.of_ext hx) (KeepT.of_ext hx)); clear hx))
            | (at_builtin; go_loud (refine app_srcC rfl _ _ rfl w1.heap.size _ _ set [x, x] HCP2.out.own rfl rfl (SlB.slc HVM3.out) ?hn ?hB ?_; (case hn => (first | omega | (simp only [List.length_cons, List.length_nil]; omega))); (case hB => exact HCP2.out.only.size); intro va wa h1 h2; generalize hsl2 : set ++ [x, x] = set2 at h1; have HCA := Lib.hid (HCP2.out.app h1 h2); have HS2 := Lib.hid hsl2; obtain ⟨Aa, ca, rfl, -⟩ := h1.form; clear h1 h2 hsl2)))
          go_roundg k
          case measure => omega
          case rel => exact ⟨stm, set2, false, rfl, HCA.out, by rw [← HS2.out]; exact HNX.out, HMOP.out, by rw [← HS2.out, List.length_append]; simp only [List.length_cons, List.length_nil]; omega, by omega, fun _ => by omega⟩
        have b45 : (c2 == 45) = true := by simpa using h45
        have HSI := Lib.hid (fun w h => (show Calls Try.prog 63 #[.pointer (some ⟨rb, 0, none⟩), .int .i64 ((stm.at_ : Int) + 1)] w (RetE (.bool (RX.singleM s (stm.at_ + 1))) w) from qsingle_any (w0 := w0) (sv := sv) w stm h (stm.at_ + 1) (by omega)))
        rcases hsg : RX.singleM s (stm.at_ + 1) with _ | _
        · have HSG := Lib.hid hsg
          have HNX := Lib.hid (HN1.out HIN.out HOKM.out (fun _ _ => hsg))
          rw [hsg] at HSI
          clear h45 hsg
          go_upto_region 13 with (go_at_call 28; go_loud (refine (qok_any _ _ HCM.out.q).mono ?_; rw [HOKM.out]; rintro e wN2 ⟨rfl, hx⟩; have HCN2 := Lib.hid (HCM.out.ex hx); have HVM2 := Lib.hid (HVM.out.keep (keeps_c []) (KeepT.of_ext hx) (KeepT.of_ext hx)); clear hx))
          have c1 := HCN2.out.q.blk.c1
          go_wp2_with (first
            | (go_at_call 37; go_loud (refine (qnext_any _ _ HCN2.out.q).mono ?_; rw [HC2N.out]; rintro e wP2 ⟨rfl, hx⟩; have HCP2 := Lib.hid (HCN2.out.ex hx); have c1 := HCP2.out.q.blk.c1; have HVM3 := Lib.hid (HVM2.out.keep (keeps_c []) (KeepT.of_ext hx) (KeepT.of_ext hx)); clear hx))
            | (go_at_call 63; go_loud (refine (HSI.out _ HCP2.out.q).mono ?_; rintro e wQ2 ⟨rfl, hx⟩; have HCQ2 := Lib.hid (HCP2.out.ex hx); have HVM4 := Lib.hid (HVM3.out.keep (keeps_c []) (KeepT.of_ext hx) (KeepT.of_ext hx)); clear hx))
            | (at_builtin; go_loud (refine app_srcC rfl _ _ rfl w1.heap.size _ _ set [x, x] HCQ2.out.own rfl rfl (SlB.slc HVM4.out) ?hn ?hB ?_; (case hn => (first | omega | (simp only [List.length_cons, List.length_nil]; omega))); (case hB => exact HCQ2.out.only.size); intro va wa h1 h2; generalize hsl2 : set ++ [x, x] = set2 at h1; have HCA := Lib.hid (HCQ2.out.app h1 h2); have HS2 := Lib.hid hsl2; obtain ⟨Aa, ca, rfl, -⟩ := h1.form; clear h1 h2 hsl2)))
          go_roundg k
          case measure => omega
          case rel => exact ⟨stm, set2, false, rfl, HCA.out, by rw [← HS2.out]; exact HNX.out, HMOP.out, by rw [← HS2.out, List.length_append]; simp only [List.length_cons, List.length_nil]; omega, by omega, fun _ => by omega⟩
        have HN2X := Lib.hid (HN2.out HIN.out HOKM.out rfl h45 hsg)
        rw [hsg] at HSI
        have hstlt : stm.at_ + 1 ≤ s.length := by
          obtain ⟨cc, hcc2, -⟩ := RX.single_sign hsg
          exact Nat.le_of_lt (List.getElem?_eq_some_iff.1 hcc2).1
        have hms := RX.member_single (s := s) (st := stm.bump 1) HOKM.out HPOS.out hsg
        have HFW2 := Lib.hid (RX.member_fwd (s := s) (st := stm.bump 1) hstlt HFW.out.caps9)
        have HMO2 := Lib.hid (RX.member_more (s := s) (st := stm.bump 1) hms.1)
        have HME2 := Lib.hid (fun w h => qmember_any (w0 := w0) (rb := rb) (sv := sv) (s := s) w (stm.bump 1) h HOKM.out (by show stm.at_ + 1 ≤ 1000; omega))
        unfold MeP at HME2
        obtain ⟨m2, hm2⟩ : ∃ y, RX.member s (stm.bump 1) = y := ⟨_, rfl⟩
        rw [hm2] at HN2X hms HFW2 HMO2 HME2
        obtain ⟨y, so2, st4⟩ := m2
        dsimp only at HN2X hms HFW2 HMO2 HME2
        obtain ⟨hok4, rfl⟩ := hms
        have HOK4 := Lib.hid hok4
        have h4hi := HFW2.out.okl hok4
        have h4mo : stm.at_ + 2 ≤ st4.at_ := HMO2.out
        have HOP4 := Lib.hid ((HFW2.out.op).trans HMOP.out)
        clear h45 hsg hm2 hstlt hok4
        go_upto_region 13 with (go_at_call 28; go_loud (refine (qok_any _ _ HCM.out.q).mono ?_; rw [HOKM.out]; rintro e wN2 ⟨rfl, hx⟩; have HCN2 := Lib.hid (HCM.out.ex hx); have HVM2 := Lib.hid (HVM.out.keep (keeps_c []) (KeepT.of_ext hx) (KeepT.of_ext hx)); clear hx))
        have c1 := HCN2.out.q.blk.c1
        go_upto_region 14 with (first
          | (go_at_call 37; go_loud (refine (qnext_any _ _ HCN2.out.q).mono ?_; rw [HC2N.out]; rintro e wP2 ⟨rfl, hx⟩; have HCP2 := Lib.hid (HCN2.out.ex hx); have c1 := HCP2.out.q.blk.c1; have HVM3 := Lib.hid (HVM2.out.keep (keeps_c []) (KeepT.of_ext hx) (KeepT.of_ext hx)); clear hx))
          | (go_at_call 63; go_loud (refine (HSI.out _ HCP2.out.q).mono ?_; rintro e wQ2 ⟨rfl, hx⟩; have HCQ2 := Lib.hid (HCP2.out.ex hx); have HVM4 := Lib.hid (HVM3.out.keep (keeps_c []) (KeepT.of_ext hx) (KeepT.of_ext hx)); clear hx)))
        clear c1
        have c1 := HCQ2.out.q.blk.c1
        have f1 := HCQ2.out.q.blk.fr 1
        go_upto_region 15 with fail
        have HCR := Lib.hid HCQ2.out.bump1
        have HVM5 := Lib.hid (HVM4.out.keepB (keepsB_c _) (KeepB.low ((Only.refl wQ2 rb).set (o := 1) (.int .i64 ((stm.at_ : Int) + 1))) HC1.out.lt))
        generalize wQ2.setCell _ _ = wR at HCR HVM5 ⊢
        clear c1 f1
        go_wp2_with fail
        refine (HME2.out _ HCR.out.q).mono ?_
        rintro e wS ⟨ho, hme⟩
        obtain ⟨vS, rfl, hvS, hqS⟩ : ∃ v, e = .returned (.tuple #[v, .bool (none : Option (List Int)).isNone]) ∧ SlB 21 1 Cc wR.heap.size wS v (RX.memSet (y, none, st4)) ∧ QS rb sv wS st4 := by
          rcases hme with ⟨-, h⟩ | ⟨h, -⟩
          · exact h
          · rw [HOK4.out] at h; cases h
        have hml : RX.memSet (y, none, st4) = [y, y] := rfl
        rw [hml] at hvS
        have HCS := Lib.hid (HCR.out.call ho hqS)
        have HVM6 := Lib.hid (HVM5.out.keepB (keepsB_c _) (KeepB.low ho HC1.out.lt))
        have HVS := Lib.hid hvS
        obtain ⟨AS, cS, rfl, -⟩ := hvS.form
        obtain ⟨g1, o1, rfl, q1, -⟩ := two_at HVM6.out
        obtain ⟨g2, o2, rfl, q2, -⟩ := two_at HVS.out
        clear ho hme hvS hqS hml
        go_upto_region 16 with fail
        have hb1 : w1.heap.size ≤ g1 := by obtain ⟨_, _, hv, _, _, _, hA⟩ := HVM6.out; injection hv with e1 _ _; obtain ⟨_, _, _, e2, e3, _⟩ := hA _ e1.symm; injection e2 with e2 _ _; omega
        have hb2 : w1.heap.size ≤ g2 := by obtain ⟨_, _, hv, _, _, _, hA⟩ := HVS.out; injection hv with e1 _ _; obtain ⟨_, _, _, e2, e3, _⟩ := hA _ e1.symm; injection e2 with e2 _ _; have := HCR.out.only.size; omega
        have hrb := HC1.out.lt
        by_cases hyx : y < x
        · have hd : decide (y < x) = true := decide_eq_true hyx
          have HB2 := Lib.hid (HN2X.out.2 hyx)
          clear hyx
          go_quiet (fail)
          go_upto_region 17 with fail
          generalize hT : wS.drewN _ = wT
          have hxT : Ext wS wT := by rw [← hT]; exact (Ext.refl _).drewN _
          have HCT := Lib.hid (HCS.out.ex hxT)
          replace q1 := hxT.cell q1
          replace q2 := hxT.cell q2
          clear hT hxT
          go_upto_region 18 with (go_at_call 29; go_loud (refine (qbad_any _ _ 5 (st'.at_ : Int) HCT.out.q).mono ?_; rintro e wU ⟨rfl, hq, ho⟩; have HCU := Lib.hid (HCT.out.call ho hq); have HYU := Lib.hid ho; clear hq ho))
          replace q1 := World.grownBy.cell HYU.out q1 (by intro e; injection e with e; simp only at e; omega)
          replace q2 := World.grownBy.cell HYU.out q2 (by intro e; injection e with e; simp only at e; omega)
          go_region_held3 (fun w' => w'.cell? ⟨g1, o1, none⟩ = some (.int .i32 x) ∧ w'.cell? ⟨g2, o2, none⟩ = some (.int .i32 y)) (first | go_keep | (go_split_ands; refine ⟨?_, ?_⟩ <;> assumption)) (fail)
          have HFK := Lib.hid (show (st4.fail 5 st'.at_).ok = false ∧ (st4.fail 5 st'.at_).code = R.2.code ∧ (st4.fail 5 st'.at_).bat = R.2.bat from by
            have hk4 : st4.code = 0 := by simpa [RX.St.ok] using HOK4.out
            refine ⟨?_, ?_, ?_⟩
            · simp [RX.St.fail, RX.St.ok, hk4]
            · rw [HB2.out.1]; simp [RX.St.fail, hk4]
            · rw [HB2.out.2]; simp [RX.St.fail, hk4])
          have hfo : (st4.fail 5 st'.at_).op = st4.op := by unfold RX.St.fail; split <;> rfl
          have hfa : (st4.fail 5 st'.at_).at_ = st4.at_ := by unfold RX.St.fail; split <;> rfl
          have hxL : Ext wU (wU.alloc (.cells #[.int .i32 x, .int .i32 y] 21)).drew := ((Ext.refl _).alloc _).drew
          have HCL2 := Lib.hid (HCU.out.ex hxL)
          have HVL := Lib.hid (show SlC (wU.alloc (.cells #[.int .i32 x, .int .i32 y] 21)).drew (.slice (some ⟨wU.heap.size, 0, none⟩) 2 2) [x, y] from (SlB.slc (c_lit (B := 0) wU [x, y] _ _ rfl rfl (Nat.zero_le _) (by simp))).ext (Ext.drew (Ext.refl _)))
          clear hxL
          generalize (wU.alloc _).drew = wL at HCL2 HVL ⊢
          generalize wU.heap.size = nl at HVL ⊢
          go_wp2_with (at_builtin; go_loud (refine app_srcC rfl _ _ rfl w1.heap.size _ _ set [x, y] HCL2.out.own rfl rfl HVL.out ?hn ?hB ?_; (case hn => (first | omega | (simp only [List.length_cons, List.length_nil]; omega))); (case hB => exact HCL2.out.only.size); intro va wa h1 h2; generalize hsl2 : set ++ [x, y] = set2 at h1; have HCA := Lib.hid (HCL2.out.app h1 h2); have HS2 := Lib.hid hsl2; obtain ⟨Aa, ca, rfl, -⟩ := h1.form; clear h1 h2 hsl2))
          go_roundg k
          case measure => omega
          case rel => exact ⟨st4.fail 5 st'.at_, set2, false, rfl, HCA.out, by rw [← HS2.out]; exact .fail _ _ _ HFK.out.1 HFK.out.2.1 HFK.out.2.2, hfo.trans HOP4.out, by rw [← HS2.out, List.length_append]; simp only [List.length_cons, List.length_nil]; omega, by omega, fun h => by omega⟩
        · have hd : decide (y < x) = false := decide_eq_false hyx
          have HB2 := Lib.hid (HN2X.out.1 (by omega))
          clear hyx
          go_quiet (fail)
          go_upto_region 18 with fail
          generalize hT : wS.drewN _ = wU
          have hxT : Ext wS wU := by rw [← hT]; exact (Ext.refl _).drewN _
          have HCU := Lib.hid (HCS.out.ex hxT)
          replace q1 := hxT.cell q1
          replace q2 := hxT.cell q2
          clear hT hxT
          go_region_held3 (fun w' => w'.cell? ⟨g1, o1, none⟩ = some (.int .i32 x) ∧ w'.cell? ⟨g2, o2, none⟩ = some (.int .i32 y)) (first | go_keep | (go_split_ands; refine ⟨?_, ?_⟩ <;> assumption)) (fail)
          have hxL : Ext wU (wU.alloc (.cells #[.int .i32 x, .int .i32 y] 21)).drew := ((Ext.refl _).alloc _).drew
          have HCL2 := Lib.hid (HCU.out.ex hxL)
          have HVL := Lib.hid (show SlC (wU.alloc (.cells #[.int .i32 x, .int .i32 y] 21)).drew (.slice (some ⟨wU.heap.size, 0, none⟩) 2 2) [x, y] from (SlB.slc (c_lit (B := 0) wU [x, y] _ _ rfl rfl (Nat.zero_le _) (by simp))).ext (Ext.drew (Ext.refl _)))
          clear hxL
          generalize (wU.alloc _).drew = wL at HCL2 HVL ⊢
          generalize wU.heap.size = nl at HVL ⊢
          go_wp2_with (at_builtin; go_loud (refine app_srcC rfl _ _ rfl w1.heap.size _ _ set [x, y] HCL2.out.own rfl rfl HVL.out ?hn ?hB ?_; (case hn => (first | omega | (simp only [List.length_cons, List.length_nil]; omega))); (case hB => exact HCL2.out.only.size); intro va wa h1 h2; generalize hsl2 : set ++ [x, y] = set2 at h1; have HCA := Lib.hid (HCL2.out.app h1 h2); have HS2 := Lib.hid hsl2; obtain ⟨Aa, ca, rfl, -⟩ := h1.form; clear h1 h2 hsl2))
          go_roundg k
          case measure => omega
          case rel => exact ⟨st4, set2, false, rfl, HCA.out, by rw [← HS2.out]; exact HB2.out, HOP4.out, by rw [← HS2.out, List.length_append]; simp only [List.length_cons, List.length_nil]; omega, by omega, fun h => by omega⟩
end
namespace RX
/-- The state behind the document's bounds of a repeat. -/
def timesS (s : List Int) (st : St) : St :=
  let a := must s (st.bump 1)
  let b := high s a.1 a.2
  let c := if b.2.ok = true ∧ nxt s b.2 0 ≠ 125 then b.2.fail 5 b.2.at_ else b.2
  if c.ok = true then (if 0 ≤ b.1 ∧ b.1 < a.1 then (c.bump 1).fail 5 st.at_ else c.bump 1) else c
theorem failat (st : St) (c b : Int) : (st.fail c b).at_ = st.at_ := by unfold St.fail; split <;> rfl
theorem failop (st : St) (c b : Int) : (st.fail c b).op = st.op := by unfold St.fail; split <;> rfl
theorem failcaps (st : St) (c b : Int) : (st.fail c b).caps = st.caps := by unfold St.fail; split <;> rfl
theorem failno (st : St) (b : Int) : (st.fail 5 b).ok = false := by
  unfold St.fail St.ok
  split
  · rfl
  · rename_i h; simpa using h
theorem must_at (s : List Int) (st : St) : (must s st).2.at_ ≤ st.at_ + 1 ∧ (must s st).2.op = st.op := by
  unfold must
  split
  · exact ⟨by rw [failat]; omega, failop _ _ _⟩
  · exact ⟨Nat.le_refl _, rfl⟩
theorem high_at (s : List Int) (lo : Int) (st : St) : (high s lo st).2.at_ ≤ st.at_ + 2 ∧ (high s lo st).2.op = st.op := by
  unfold high
  split
  · split
    · have := must_at s (st.bump 1)
      exact ⟨this.1, this.2⟩
    · exact ⟨Nat.le_succ _, rfl⟩
  · exact ⟨Nat.le_add_right _ _, rfl⟩
theorem times_at (s : List Int) (st : St) : (timesS s st).at_ ≤ st.at_ + 5 ∧ (timesS s st).op = st.op := by
  unfold timesS
  simp only
  have h1 := must_at s (st.bump 1)
  have h2 := high_at s (must s (st.bump 1)).1 (must s (st.bump 1)).2
  have h0 : (st.bump 1).at_ = st.at_ + 1 := rfl
  have h0o : (st.bump 1).op = st.op := rfl
  generalize must s (st.bump 1) = a at h1 h2
  generalize high s a.1 a.2 = b at h2
  have h3 : ∀ c : St, c = (if b.2.ok = true ∧ nxt s b.2 0 ≠ 125 then b.2.fail 5 b.2.at_ else b.2) → c.at_ = b.2.at_ ∧ c.op = b.2.op := by
    intro c hc
    rw [hc]
    split
    · exact ⟨failat _ _ _, failop _ _ _⟩
    · exact ⟨rfl, rfl⟩
  have h4 := h3 _ rfl
  generalize (if b.2.ok = true ∧ nxt s b.2 0 ≠ 125 then b.2.fail 5 b.2.at_ else b.2) = c at h4
  have h5 : (c.bump 1).at_ = c.at_ + 1 ∧ (c.bump 1).op = c.op := ⟨rfl, rfl⟩
  split
  · split
    · rw [failat, failop]; exact ⟨by omega, by rw [h5.2, h4.2, h2.2, h1.2, h0o]⟩
    · exact ⟨by omega, by rw [h5.2, h4.2, h2.2, h1.2, h0o]⟩
  · exact ⟨by omega, by rw [h4.2, h2.2, h1.2, h0o]⟩
theorem times_bounds (s : List Int) (st : St) : ((bounds s st).2.2.ok = true → timesS s st = (bounds s st).2.2) ∧ ((bounds s st).2.2.ok = false → (timesS s st).code = (bounds s st).2.2.code ∧ (timesS s st).bat = (bounds s st).2.2.bat) := by
  unfold timesS bounds
  simp only
  generalize must s (st.bump 1) = a
  generalize high s a.1 a.2 = b
  generalize (if b.2.ok = true ∧ nxt s b.2 0 ≠ 125 then b.2.fail 5 b.2.at_ else b.2) = c
  have hb : (c.bump 1).ok = c.ok := rfl
  rcases hc : c.ok with _ | _
  · have h1 : ¬ ((c.bump 1).ok = true ∧ 0 ≤ b.1 ∧ b.1 < a.1) := by rw [hb, hc]; simp
    rw [if_neg h1, hb, hc]
    exact ⟨fun h => (by cases h), fun _ => ⟨rfl, rfl⟩⟩
  · by_cases hx : 0 ≤ b.1 ∧ b.1 < a.1
    · rw [if_pos ⟨hb.trans hc, hx⟩, if_pos rfl, if_pos hx]
      exact ⟨fun _ => rfl, fun _ => ⟨rfl, rfl⟩⟩
    · rw [if_neg (fun h => hx h.2), if_pos rfl, if_neg hx]
      exact ⟨fun _ => rfl, fun _ => ⟨rfl, rfl⟩⟩
end RX
/-- Inside of a method: the reader. -/
structure Qb (w0 : World) (rb : Nat) (sv : Value) (s : List Int) (w1 : World) (st : RX.St) (wr : World) : Prop where
  q : Qn w0 rb sv s wr st
  only : Only w1 wr rb
section
variable {w0 w1 wr w' : World} {rb : Nat} {sv v v' : Value} {s : List Int} {st st' : RX.St}
theorem Qb.call (h : Qb w0 rb sv s w1 st wr) (ho : Only wr w' rb) (hq : QS rb sv w' st') : Qb w0 rb sv s w1 st' w' := ⟨h.q.step ho hq, h.only.trans ho⟩
theorem Qb.ex (h : Qb w0 rb sv s w1 st wr) (hx : Ext wr w') : Qb w0 rb sv s w1 st w' := h.call (Only.of_ext hx rb) (hx.heap h.q.blk)
theorem Qb.bump1 (h : Qb w0 rb sv s w1 st wr) : Qb w0 rb sv s w1 (st.bump 1) (wr.setCell ⟨rb, 1, none⟩ (.int .i64 ((st.at_ : Int) + 1))) := h.call ((Only.refl _ rb).set _) h.q.bump1.blk
end
section
variable {w0 : World} {rb : Nat} {sv : Value} {s : List Int}
theorem qtimes_any (w1 : World) (st : RX.St) (he : Qn w0 rb sv s w1 st) (ha : st.at_ ≤ 500) :
    Calls Try.prog 45 #[.pointer (some ⟨rb, 0, none⟩)] w1 (QV (.tuple #[.int .i64 (RX.bounds s st).1, .int .i64 (RX.bounds s st).2.1]) rb sv w1 (RX.timesS s st)) := by
  have HC1 := Lib.hid (show Qb w0 rb sv s w1 st w1 from ⟨he, Only.refl _ _⟩)
  obtain ⟨m, hm⟩ : ∃ x, RX.must s (st.bump 1) = x := ⟨_, rfl⟩
  obtain ⟨lo, st2⟩ := m
  obtain ⟨m, hh⟩ : ∃ x, RX.high s lo st2 = x := ⟨_, rfl⟩
  obtain ⟨hi, stx⟩ := m
  have h2a : st2.at_ ≤ st.at_ + 2 := by have := (RX.must_at s (st.bump 1)).1; rw [hm] at this; exact this
  have hxa : stx.at_ ≤ st.at_ + 4 := by have := (RX.high_at s lo st2).1; rw [hh] at this; exact Nat.le_trans this (by omega)
  obtain ⟨st4, h4⟩ : ∃ x, (if stx.ok = true ∧ RX.nxt s stx 0 ≠ 125 then stx.fail 5 stx.at_ else stx) = x := ⟨_, rfl⟩
  have hb : (RX.bounds s st).1 = lo ∧ (RX.bounds s st).2.1 = hi := by unfold RX.bounds; simp only [hm, hh]; exact ⟨trivial, trivial⟩
  have hts : RX.timesS s st = if st4.ok = true then (if 0 ≤ hi ∧ hi < lo then (st4.bump 1).fail 5 st.at_ else st4.bump 1) else st4 := by unfold RX.timesS; simp only [hm, hh, h4]
  obtain ⟨stz, hz⟩ : ∃ x, (if st4.ok = true then (if 0 ≤ hi ∧ hi < lo then (st4.bump 1).fail 5 st.at_ else st4.bump 1) else st4) = x := ⟨_, rfl⟩
  rw [hb.1, hb.2, hts, hz]
  have HZ := Lib.hid hz
  have HM := Lib.hid hm
  have HH := Lib.hid hh
  have H4 := Lib.hid h4
  clear he hm hh h4 hb hts hz
  go_enter Try.func45, Try.ntmps45
  have c1 := HC1.out.q.blk.c1
  have f1 := HC1.out.q.blk.fr 1
  go_upto_region 3 with fail
  have HC2 := Lib.hid HC1.out.bump1
  generalize w1.setCell _ _ = w2 at HC2 ⊢
  clear c1 f1
  go_upto_region 5 with (go_at_call 55; go_loud (refine (qdigit_any _ _ HC2.out.q (by show st.at_ + 1 ≤ 1000; omega)).mono ?_; rw [HM.out]; rintro e w3 ⟨rfl, hq, ho⟩; have HC3 := Lib.hid (HC2.out.call ho hq); clear hq ho))
  rcases hk2 : st2.ok with _ | _
  · have HK2 := Lib.hid hk2
    have hxx : hi = lo ∧ stx = st2 := by
      have := HH.out
      unfold RX.high at this
      rw [if_neg (by rw [hk2]; simp)] at this
      injection this with a b
      exact ⟨a.symm, b.symm⟩
    obtain ⟨rfl, rfl⟩ := hxx
    have h4x : st4 = stx := by rw [← H4.out, if_neg (by rw [hk2]; simp)]
    have HR := Lib.hid (show stx = stz by rw [← HZ.out, h4x, hk2]; rfl)
    clear hk2 h4x
    go_wp2_with (first
      | (go_at_call 28; go_loud (refine (qok_any _ _ HC3.out.q).mono ?_; rw [HK2.out]; rintro e w4 ⟨rfl, hx⟩; have HC4 := Lib.hid (HC3.out.ex hx); clear hx))
      | (go_at_call 28; go_loud (refine (qok_any _ _ HC4.out.q).mono ?_; rw [HK2.out]; rintro e w5 ⟨rfl, hx⟩; have HC5 := Lib.hid (HC4.out.ex hx); clear hx))
      | (go_at_call 28; go_loud (refine (qok_any _ _ HC5.out.q).mono ?_; rw [HK2.out]; rintro e w6 ⟨rfl, hx⟩; have HC6 := Lib.hid (HC5.out.ex hx); clear hx)))
    go_ret2
    exact ⟨rfl, HR.out ▸ HC6.out.q.blk, HC6.out.only⟩
  have HK2 := Lib.hid hk2
  obtain ⟨c2, hc2⟩ : ∃ x, RX.nxt s st2 0 = x := ⟨_, rfl⟩
  have HN2 := Lib.hid hc2
  go_upto_if 27 with (first
    | (go_at_call 28; go_loud (refine (qok_any _ _ HC3.out.q).mono ?_; rw [HK2.out]; rintro e w4 ⟨rfl, hx⟩; have HC4 := Lib.hid (HC3.out.ex hx); clear hx))
    | (go_at_call 37; go_loud (refine (qnext_any _ _ HC4.out.q).mono ?_; rw [HN2.out]; rintro e w5 ⟨rfl, hx⟩; have HC5 := Lib.hid (HC4.out.ex hx); clear hx)))
  go_cut [6] (fun s6 wx => s6 = .int .i64 hi ∧ Qb w0 rb sv s w1 stx wx)
  case first =>
    by_cases h44 : c2 = 44
    · have b44 : (c2 == 44) = true := by simpa using h44
      obtain ⟨c3, hc3⟩ : ∃ x, RX.nxt s (st2.bump 1) 0 = x := ⟨_, rfl⟩
      have HN3 := Lib.hid hc3
      have hh := HH.out
      unfold RX.high at hh
      rw [if_pos ⟨hk2, hc2.trans h44⟩, hc3] at hh
      have HHH := Lib.hid hh
      clear hk2 hc2 h44 hc3 hh
      have c1 := HC5.out.q.blk.c1
      have f1 := HC5.out.q.blk.fr 1
      go_upto_region 8 with fail
      have HC6 := Lib.hid HC5.out.bump1
      generalize w5.setCell _ _ = w6 at HC6 ⊢
      clear c1 f1
      by_cases h125 : c3 = 125
      · have b125 : (c3 != 125) = false := by simpa using h125
        have hh := HHH.out
        rw [if_neg (by simpa using h125)] at hh
        injection hh with e1 e2
        subst e1 e2
        clear h125
        go_wp2_with (go_at_call 37; go_loud (refine (qnext_any _ _ HC6.out.q).mono ?_; rw [HN3.out]; rintro e w7 ⟨rfl, hx⟩; have HC7 := Lib.hid (HC6.out.ex hx); clear hx))
        go_meet
        exact ⟨rfl, HC7.out⟩
      · have b125 : (c3 != 125) = true := by simpa using h125
        have hh := HHH.out
        rw [if_pos (by simpa using h125)] at hh
        have HH2 := Lib.hid hh
        clear h125 hh
        go_wp2_with (first
          | (go_at_call 37; go_loud (refine (qnext_any _ _ HC6.out.q).mono ?_; rw [HN3.out]; rintro e w7 ⟨rfl, hx⟩; have HC7 := Lib.hid (HC6.out.ex hx); clear hx))
          | (go_at_call 55; go_loud (refine (qdigit_any _ _ HC7.out.q (by show st2.at_ + 1 ≤ 1000; omega)).mono ?_; rw [HH2.out]; rintro e w8 ⟨rfl, hq, ho⟩; have HC8 := Lib.hid (HC7.out.call ho hq); clear hq ho)))
        go_meet
        exact ⟨rfl, HC8.out⟩
    · have b44 : (c2 == 44) = false := by simpa using h44
      have hh := HH.out
      unfold RX.high at hh
      rw [if_neg (by rw [hc2]; exact fun h => h44 h.2)] at hh
      injection hh with e1 e2
      subst e1 e2
      clear hk2 hc2 h44
      go_wp2_with fail
      go_meet
      exact ⟨rfl, HC5.out⟩
  case rest =>
    obtain ⟨rfl, hcc⟩ := hcut
    have HC9 := Lib.hid hcc
    clear hcc hk2 hc2
    rcases hkx : stx.ok with _ | _
    · have HKX := Lib.hid hkx
      have h4x : st4 = stx := by rw [← H4.out, if_neg (by rw [hkx]; simp)]
      have HR := Lib.hid (show stx = stz by rw [← HZ.out, h4x, hkx]; rfl)
      clear hkx h4x
      go_wp2_with (first
        | (go_at_call 28; go_loud (refine (qok_any _ _ HC9.out.q).mono ?_; rw [HKX.out]; rintro e wA ⟨rfl, hx⟩; have HCA := Lib.hid (HC9.out.ex hx); clear hx))
        | (go_at_call 28; go_loud (refine (qok_any _ _ HCA.out.q).mono ?_; rw [HKX.out]; rintro e wB ⟨rfl, hx⟩; have HCB := Lib.hid (HCA.out.ex hx); clear hx)))
      go_ret2
      exact ⟨rfl, HR.out ▸ HCB.out.q.blk, HCB.out.only⟩
    have HKX := Lib.hid hkx
    obtain ⟨cx, hcx⟩ : ∃ x, RX.nxt s stx 0 = x := ⟨_, rfl⟩
    have HNX := Lib.hid hcx
    by_cases h125 : cx = 125
    rotate_left
    · have b125 : (cx != 125) = true := by simpa using h125
      have h4x : st4 = stx.fail 5 stx.at_ := by rw [← H4.out, if_pos ⟨hkx, by rw [hcx]; exact h125⟩]
      have HKN := Lib.hid (RX.failno stx stx.at_)
      have HR := Lib.hid (show stx.fail 5 stx.at_ = stz by rw [← HZ.out, h4x, HKN.out]; rfl)
      clear hkx h4x hcx h125
      go_upto_if 46 with (first
        | (go_at_call 28; go_loud (refine (qok_any _ _ HC9.out.q).mono ?_; rw [HKX.out]; rintro e wA ⟨rfl, hx⟩; have HCA := Lib.hid (HC9.out.ex hx); clear hx))
        | (go_at_call 37; go_loud (refine (qnext_any _ _ HCA.out.q).mono ?_; rw [HNX.out]; rintro e wB ⟨rfl, hx⟩; have HCB := Lib.hid (HCA.out.ex hx); clear hx)))
      have c1 := HCB.out.q.blk.c1
      go_wp2_with (first
        | (go_at_call 29; go_loud (refine (qbad_any _ _ 5 (stx.at_ : Int) HCB.out.q).mono ?_; rintro e wD ⟨rfl, hq, ho⟩; have HCD := Lib.hid (HCB.out.call ho hq); clear hq ho))
        | (go_at_call 28; go_loud (refine (qok_any _ _ HCD.out.q).mono ?_; rw [HKN.out]; rintro e wE ⟨rfl, hx⟩; have HCE := Lib.hid (HCD.out.ex hx); clear hx)))
      go_ret2
      exact ⟨rfl, HR.out ▸ HCE.out.q.blk, HCE.out.only⟩
    have b125 : (cx != 125) = false := by simpa using h125
    have h4x : st4 = stx := by rw [← H4.out, if_neg (by rw [hcx]; exact fun h => h.2 h125)]
    have HR := Lib.hid (show (if 0 ≤ hi ∧ hi < lo then (stx.bump 1).fail 5 st.at_ else stx.bump 1) = stz by rw [← HZ.out, h4x, hkx]; rfl)
    clear hkx h4x hcx h125
    go_upto_if 46 with (first
      | (go_at_call 28; go_loud (refine (qok_any _ _ HC9.out.q).mono ?_; rw [HKX.out]; rintro e wA ⟨rfl, hx⟩; have HCA := Lib.hid (HC9.out.ex hx); clear hx))
      | (go_at_call 37; go_loud (refine (qnext_any _ _ HCA.out.q).mono ?_; rw [HNX.out]; rintro e wB ⟨rfl, hx⟩; have HCB := Lib.hid (HCA.out.ex hx); clear hx)))
    go_upto_region 13 with (go_at_call 28; go_loud (refine (qok_any _ _ HCB.out.q).mono ?_; rw [HKX.out]; rintro e wD ⟨rfl, hx⟩; have HCD := Lib.hid (HCB.out.ex hx); clear hx))
    have c1 := HCD.out.q.blk.c1
    have f1 := HCD.out.q.blk.fr 1
    go_upto_region 14 with fail
    have HCE := Lib.hid HCD.out.bump1
    generalize wD.setCell _ _ = wE at HCE ⊢
    clear c1 f1
    by_cases h0 : 0 ≤ hi
    · have d0 : decide (hi ≥ 0) = true := by simpa using h0
      by_cases h1 : hi < lo
      · have d1 : decide (lo > hi) = true := by simpa using h1
        have HR := Lib.hid ((if_pos ⟨h0, h1⟩).symm.trans HR.out)
        go_wp2_with (go_at_call 29; go_loud (refine (qbad_any _ _ 5 (st.at_ : Int) HCE.out.q).mono ?_; rintro e wF ⟨rfl, hq, ho⟩; have HCF := Lib.hid (HCE.out.call ho hq); clear hq ho))
        go_ret2
        exact ⟨rfl, HR.out ▸ HCF.out.q.blk, HCF.out.only⟩
      · have d1 : decide (lo > hi) = false := by simpa using h1
        have HR := Lib.hid ((if_neg (fun h => h1 h.2)).symm.trans HR.out)
        go_wp2_with fail
        go_ret2
        exact ⟨rfl, HR.out ▸ HCE.out.q.blk, HCE.out.only⟩
    · have d0 : decide (hi ≥ 0) = false := by simpa using h0
      have HR := Lib.hid ((if_neg (fun h => h0 h.1)).symm.trans HR.out)
      go_wp2_with fail
      go_ret2
      exact ⟨rfl, HR.out ▸ HCE.out.q.blk, HCE.out.only⟩
end
namespace RX
/-- The state behind a group whose inside ended at st. -/
def grpEnd (s : List Int) (st : St) : St :=
  let st1 : St := { st with op := st.op - 1 }
  (if st1.ok = true ∧ nxt s st1 0 ≠ 41 then st1.fail 5 st1.at_ else st1).bump 1
theorem fail_eq {a b : St} {c x : Int} (h1 : a.code = b.code) (h2 : a.bat = b.bat) : (a.fail c x).code = (b.fail c x).code ∧ (a.fail c x).bat = (b.fail c x).bat := by
  unfold St.fail
  rw [h1]
  split
  · exact ⟨rfl, rfl⟩
  · exact ⟨h1, h2⟩
theorem under_one (x : ReN) (l : List ReN) : under x [l] = x :: l.map ReN.down := by simp [under]
end RX
theorem QOut.group {s : List Int} {alt : RX.St → List RX.ReN × RX.St} {st stg : RX.St} {k : Int} {K : Nat} {D : Int} {N : Nat} {l : List RX.ReN} {st5 : RX.St} (h : QOut (alt { stg with op := stg.op + 1 }) { stg with op := stg.op + 1 } K D N l st5)
    (hg : RX.groupP s alt st = RX.groupIn s alt k stg) (hop : stg.op = st.op) (hD : 0 ≤ D) : QOut (RX.groupP s alt st) st (K + 1) (D + 1) (N + 1) (RX.node 5 k 0 false false [] :: l.map RX.ReN.down) (RX.grpEnd s st5) := by
  have e : RX.groupIn s alt k stg = (RX.node 5 k 0 false false [] :: (alt { stg with op := stg.op + 1 }).1.map RX.ReN.down, RX.grpEnd s (alt { stg with op := stg.op + 1 }).2) := by unfold RX.groupIn RX.grpEnd; simp only [RX.under_one]
  rw [hg, e]
  have ho5 : st5.op = stg.op + 1 := h.op
  generalize alt { stg with op := stg.op + 1 } = r at h
  refine ⟨by simp; exact h.len, ?_, ?_, ?_, ?_, ?_⟩
  · intro x hx
    rcases List.mem_cons.1 hx with rfl | hx
    · exact ⟨Int.le_refl _, by show (0 : Int) ≤ D + 1; omega⟩
    · obtain ⟨y, hy, rfl⟩ := List.mem_map.1 hx
      have := h.deep y hy
      exact ⟨by show 0 ≤ y.deep + 1; omega, by show y.deep + 1 ≤ D + 1; omega⟩
  · have := h.hi
    unfold RX.grpEnd
    simp only
    split
    · show (RX.St.fail _ _ _).at_ + 1 ≤ N + 1
      rw [RX.failat]
      exact Nat.succ_le_succ this
    · exact Nat.succ_le_succ this
  · unfold RX.grpEnd
    simp only
    split
    · show (RX.St.fail _ _ _).op = st.op
      rw [RX.failop]
      show st5.op - 1 = st.op
      omega
    · show st5.op - 1 = st.op
      omega
  · intro hk
    have hk2 : r.2.ok = true := by
      rcases hr : r.2.ok with _ | _
      · have : (RX.grpEnd s r.2).ok = false := by
          unfold RX.grpEnd
          simp only
          rw [if_neg (by rintro ⟨h1, -⟩; have h2 : r.2.ok = true := h1; rw [hr] at h2; cases h2)]
          exact hr
        rw [show ((RX.node 5 k 0 false false [] :: r.1.map RX.ReN.down, RX.grpEnd s r.2) : List RX.ReN × RX.St).2 = RX.grpEnd s r.2 from rfl, this] at hk; cases hk
      · rfl
    obtain ⟨rfl, rfl⟩ := h.good hk2
    exact ⟨rfl, rfl⟩
  · intro hk
    rcases hr : r.2.ok with _ | _
    · obtain ⟨h1, h2⟩ := h.bad hr
      have h3 : st5.ok = false := by rw [h.ok]; exact hr
      unfold RX.grpEnd
      simp only
      rw [if_neg (by rintro ⟨h1, -⟩; have h2 : st5.ok = true := h1; rw [h3] at h2; cases h2), if_neg (by rintro ⟨h1, -⟩; have h2 : r.2.ok = true := h1; rw [hr] at h2; cases h2)]
      exact ⟨h1, h2⟩
    · obtain ⟨-, rfl⟩ := h.good hr
      exact ⟨rfl, rfl⟩
/-- A method that ends in a fault, with nothing. -/
theorem QOut.fault {R : List RX.ReN × RX.St} {st st2 : RX.St} {K : Nat} {D : Int} {n : Nat} (hop : st2.op = st.op) (hhi : st2.at_ ≤ n) (h0 : R.2.ok = false) (h1 : st2.code = R.2.code) (h2 : st2.bat = R.2.bat) : QOut R st K D n [] st2 :=
  ⟨Nat.zero_le _, by simp, hhi, hop, (fun h => by rw [h0] at h; cases h), fun _ => ⟨h1, h2⟩⟩
/-- What alternatives keep, at a level. -/
def AltQ (w0 : World) (rb : Nat) (sv : Value) (s : List Int) (n : Nat) (alt : RX.St → List RX.ReN × RX.St) (K : Nat) (D : Int) (N : Nat) : Prop :=
  ∀ (w : World) (st : RX.St), Qn w0 rb sv s w st → st.ok = true → st.at_ ≤ s.length → st.caps ≤ 9 → st.op + n = 12 → Calls Try.prog 27 #[.pointer (some ⟨rb, 0, none⟩)] w (QP rb sv w (alt st) st K D N)
/-- A node's block. -/
def ReBox (gb : Nat) (k lo hi : Int) (lz : Bool) (w : World) : Prop :=
  w.heap[gb]? = some (.cells #[.int .i64 k, .int .i64 0, .int .i64 lo, .int .i64 hi, .bool lz, .bool false, .slice none 0 0] 47 (0, 0))
/-- Inside of a method that holds a node: the reader, the node's block. -/
structure Qg (w0 : World) (rb : Nat) (sv : Value) (s : List Int) (w1 : World) (gb : Nat) (k lo hi : Int) (lz : Bool) (st : RX.St) (v : Value) (l : List RX.ReN) (wr : World) : Prop where
  b : Qb w0 rb sv s w1 st wr
  g : ReBox gb k lo hi lz wr
  new : w1.heap.size ≤ gb
  lt : rb < w1.heap.size
  val : SlRe w1.heap.size w1.heap.size wr v l
theorem setcell_new {a w : World} {p nb o : Nat} {u : Value} (hn : a.heap.size ≤ nb) (h : Only a w p) : Only a (w.setCell ⟨nb, o, none⟩ u) p :=
  ⟨h.os, h.tape, h.output, by simpa using h.size, fun i hi hne => (Below.heap_setCell w ⟨nb, o, none⟩ u i (by rintro rfl; exact Nat.lt_irrefl _ (Nat.lt_of_lt_of_le hi hn))).trans (h.block i hi hne)⟩
section
variable {w0 w1 wr w' : World} {rb gb : Nat} {sv v v' : Value} {s : List Int} {st st' : RX.St} {k lo hi lo' hi' : Int} {lz : Bool} {l l' : List RX.ReN}
theorem ReBox.c (h : ReBox gb k lo hi lz wr) (o : Nat) (u : Value) (hu : (#[.int .i64 k, .int .i64 0, .int .i64 lo, .int .i64 hi, .bool lz, .bool false, .slice none 0 0] : Array Value)[o]? = some u) : wr.cell? ⟨gb, o, none⟩ = some u := by
  unfold ReBox at h
  simp only [World.cell?, h]
  exact hu
theorem ReBox.fr (h : ReBox gb k lo hi lz wr) (o : Nat) : wr.frozen? ⟨gb, o, none⟩ = false := frozen_of_row wr gb o _ _ h
theorem ReBox.lo_ (h : ReBox gb k lo hi lz wr) : ReBox gb k lo' hi lz (wr.setCell ⟨gb, 2, none⟩ (.int .i64 lo')) := heap_set h
theorem ReBox.hi_ (h : ReBox gb k lo hi lz wr) : ReBox gb k lo hi' lz (wr.setCell ⟨gb, 3, none⟩ (.int .i64 hi')) := heap_set h
theorem ReBox.lz_ (h : ReBox gb k lo hi lz wr) : ReBox gb k lo hi true (wr.setCell ⟨gb, 4, none⟩ (.bool true)) := heap_set h
theorem Qg.call (h : Qg w0 rb sv s w1 gb k lo hi lz st v l wr) (ho : Only wr w' rb) (hq : QS rb sv w' st') : Qg w0 rb sv s w1 gb k lo hi lz st' v l w' :=
  ⟨h.b.call ho hq, (ho.block gb (heap_lt h.g) (by intro e; injection e with e; have := h.new; have := h.lt; omega)).trans h.g, h.new, h.lt, h.val.keepB (keepsB_re _) (KeepB.low ho h.lt)⟩
theorem Qg.ex (h : Qg w0 rb sv s w1 gb k lo hi lz st v l wr) (hx : Ext wr w') : Qg w0 rb sv s w1 gb k lo hi lz st v l w' := h.call (Only.of_ext hx rb) (hx.heap h.b.q.blk)
theorem Qg.bump1 (h : Qg w0 rb sv s w1 gb k lo hi lz st v l wr) : Qg w0 rb sv s w1 gb k lo hi lz (st.bump 1) v l (wr.setCell ⟨rb, 1, none⟩ (.int .i64 ((st.at_ : Int) + 1))) := h.call ((Only.refl _ rb).set _) h.b.q.bump1.blk
theorem Qg.setcaps1 (h : Qg w0 rb sv s w1 gb k lo hi lz st v l wr) : Qg w0 rb sv s w1 gb k lo hi lz { st with caps := st.caps + 1 } v l (wr.setCell ⟨rb, 2, none⟩ (.int .i64 ((st.caps : Int) + 1))) := h.call ((Only.refl _ rb).set _) (h.b.q.setcaps (st.caps + 1)).blk
theorem Qg.setop1 (h : Qg w0 rb sv s w1 gb k lo hi lz st v l wr) : Qg w0 rb sv s w1 gb k lo hi lz { st with op := st.op + 1 } v l (wr.setCell ⟨rb, 3, none⟩ (.int .i64 ((st.op : Int) + 1))) := h.call ((Only.refl _ rb).set _) (h.b.q.setop (st.op + 1)).blk
theorem Qg.setop0 (h : Qg w0 rb sv s w1 gb k lo hi lz st v l wr) (h1 : 1 ≤ st.op) : Qg w0 rb sv s w1 gb k lo hi lz { st with op := st.op - 1 } v l (wr.setCell ⟨rb, 3, none⟩ (.int .i64 ((st.op : Int) - 1))) := by
  have e : ((st.op : Int) - 1) = ((st.op - 1 : Nat) : Int) := by omega
  rw [e]; exact h.call ((Only.refl _ rb).set _) (h.b.q.setop (st.op - 1)).blk
theorem Qg.set (h : Qg w0 rb sv s w1 gb k lo hi lz st (.slice none 0 0) [] wr) {o : Nat} {u : Value} {k' lo' hi' : Int} {lz' : Bool} (hg : ReBox gb k' lo' hi' lz' (wr.setCell ⟨gb, o, none⟩ u)) : Qg w0 rb sv s w1 gb k' lo' hi' lz' st (.slice none 0 0) [] (wr.setCell ⟨gb, o, none⟩ u) := by
  have hlt : rb < gb := Nat.lt_of_lt_of_le h.lt h.new
  have hq : QS rb sv (wr.setCell ⟨gb, o, none⟩ u) st := (Below.heap_setCell wr ⟨gb, o, none⟩ u rb (by rintro rfl; exact Nat.lt_irrefl _ hlt)).trans h.b.q.blk
  have hx : Ext w0 (wr.setCell ⟨gb, o, none⟩ u) := Ext.only h.b.q.ext ((Only.refl wr gb).set u) (by have := h.b.q.lo; omega)
  exact ⟨⟨⟨h.b.q.sl, h.b.q.lo, h.b.q.len, h.b.q.pos, hx, hq⟩, setcell_new h.new h.b.only⟩, hg, h.new, h.lt, SlB.nil_⟩
theorem Qg.setv (h : Qg w0 rb sv s w1 gb k lo hi lz st v l wr) (hv : SlRe w1.heap.size w1.heap.size wr v' l') : Qg w0 rb sv s w1 gb k lo hi lz st v' l' wr := ⟨h.b, h.g, h.new, h.lt, hv⟩
theorem Qg.start {w2 : World} (h : Qb w0 rb sv s w1 st w2) (hlt : rb < w1.heap.size) : Qg w0 rb sv s w1 w2.heap.size k 0 0 false st (.slice none 0 0) [] (w2.alloc (.cells #[.int .i64 k, .int .i64 0, .int .i64 0, .int .i64 0, .bool false, .bool false, .slice none 0 0] 47)) :=
  ⟨h.ex ((Ext.refl _).alloc _), heap_alloc_new _ _, h.only.size, hlt, SlB.nil_⟩
theorem qunder_any {B : Nat} (w : World) (x : RX.ReN) (cs : List Value) (more : List RX.ReN) (vm : Value) (hx : CR B w cs x) (hm : SlRe B B w vm more) (hb : B ≤ w.heap.size) (hn : more.length ≤ 90000) (hd : ∀ y ∈ more, 0 ≤ y.deep ∧ y.deep ≤ 1000) :
    Calls Try.prog 38 #[.slice (some ⟨w.heap.size, 0, none⟩) 1 1, vm] (w.alloc (.cells cs.toArray 47)) (fun e w' => ∃ v', e = .returned v' ∧ OwnRe B B w' v' (x :: more.map RX.ReN.down) ∧ Ext w w') := by
  have hx1 : Ext w (w.alloc (.cells cs.toArray 47)) := (Ext.refl w).alloc _
  refine (qlower_any B B B [x] more _ vm _ (reQ_lit rfl hb hx) (hm.keep (keeps_re B) (KeepT.of_ext hx1) (KeepT.of_ext hx1)) (by simp) ?_ (by simp; omega) (by simp; omega) hd).mono ?_
  · intro g o n c hv hg
    obtain ⟨A, c', e, -, -, -, hA⟩ := hm
    rw [hv] at e
    injection e with e1 _ _
    obtain ⟨_, _, _, e2, -, e3, -⟩ := hA _ e1.symm
    injection e2 with e2 _ _
    have := heap_lt e3
    simp [Value.ownBlock] at hg
    omega
  · rintro e w' ⟨v', rfl, h1, h2⟩
    exact ⟨v', rfl, h1, hx1.grown h2 (by intro k hk; simp [Value.ownBlock] at hk; omega)⟩
end
section
variable {w0 : World} {rb : Nat} {sv : Value} {s : List Int}
theorem qgroup_any (n : Nat) (alt : RX.St → List RX.ReN × RX.St) {K : Nat} {D : Int} {N : Nat} (HA : ∀ m, n = m + 1 → AltQ w0 rb sv s m alt K D N) (hK : K ≤ 10000) (hD : 0 ≤ D ∧ D ≤ 100) (hN : s.length + 4 ≤ N ∧ N ≤ 1000)
    (w1 : World) (st : RX.St) (he : Qn w0 rb sv s w1 st) (hok : st.ok = true) (ha : st.at_ < s.length) (h9 : st.caps ≤ 9) (hop : st.op + n = 12) :
    Calls Try.prog 51 #[.pointer (some ⟨rb, 0, none⟩)] w1 (QP rb sv w1 (RX.groupP s alt st) st (K + 1) (D + 1) (N + 1)) := by
  have hl60 := he.len
  have HC1 := Lib.hid (show Qb w0 rb sv s w1 st w1 from ⟨he, Only.refl _ _⟩)
  have hrb := he.rbl
  have HOK := Lib.hid hok
  have HOP := Lib.hid hop
  obtain ⟨R, hR⟩ : ∃ x, RX.groupP s alt st = x := ⟨_, rfl⟩
  have HR := Lib.hid hR
  obtain ⟨c1_, hc1⟩ : ∃ x, RX.nxt s (st.bump 1) 0 = x := ⟨_, rfl⟩
  obtain ⟨c2_, hc2⟩ : ∃ x, RX.nxt s (st.bump 2) 0 = x := ⟨_, rfl⟩
  have HN1 := Lib.hid hc1
  have HN2 := Lib.hid (show RX.nxt s ((st.bump 1).bump 1) 0 = c2_ from hc2)
  have hgp : RX.groupP s alt st = if 12 ≤ st.op then ([], st.fail 6 st.at_) else if c1_ = 63 ∧ c2_ = 58 then RX.groupIn s alt 0 (st.bump 3) else if c1_ = 63 then ([], st.fail 5 (st.at_ + 2)) else if 9 ≤ st.caps then ([], st.fail 3 st.at_) else RX.groupIn s alt (st.caps + 1) { st.bump 1 with caps := st.caps + 1 } := by
    rw [← hc1, ← hc2]; rfl
  have HGP := Lib.hid (hR.symm.trans hgp)
  rw [hR]
  clear he hok hR hc1 hc2 hgp
  go_enter Try.func51, Try.ntmps51
  have c1 := HC1.out.q.blk.c1
  have f1 := HC1.out.q.blk.fr 1
  go_upto_region 3 with fail
  have HC2 := Lib.hid HC1.out.bump1
  generalize w1.setCell _ _ = w2 at HC2 ⊢
  clear c1 f1
  go_upto_region 4 with fail
  have HC3 := Lib.hid (Qg.start (k := 5) HC2.out hrb)
  have hgbn : w1.heap.size ≤ w2.heap.size := HC2.out.only.size
  generalize w2.heap.size = gb at HC3 hgbn ⊢
  generalize w2.alloc _ = w3 at HC3 ⊢
  have c3 := HC3.out.b.q.blk.c3
  by_cases h12 : 12 ≤ st.op
  · have d12 : decide ((12 : Int) ≤ ((st.bump 1).op : Int)) = true := by show decide ((12 : Int) ≤ (st.op : Int)) = true; simp; omega
    have hr := HGP.out
    rw [if_pos h12] at hr
    subst hr
    clear h12
    go_upto_if 22 with fail
    go_wp2_with (go_at_call 29; go_loud (refine (qbad_any _ _ 6 (st.at_ : Int) HC3.out.b.q).mono ?_; rintro e w4 ⟨rfl, hq, ho⟩; have HC4 := Lib.hid (HC3.out.call ho hq); clear hq ho))
    go_ret
    exact ⟨[], _, _, rfl, SlB.nil_, HC4.out.b.q.blk, HC4.out.b.only, QOut.fault (by rw [RX.failop]; rfl) (by rw [RX.failat]; show st.at_ + 1 ≤ N + 1; omega) (RX.St.fail_ok _ (by decide)) (RX.fail_eq (a := st.bump 1) (b := st) rfl rfl).1 (RX.fail_eq (a := st.bump 1) (b := st) rfl rfl).2⟩
  have d12 : decide ((12 : Int) ≤ ((st.bump 1).op : Int)) = false := by show decide ((12 : Int) ≤ (st.op : Int)) = false; simp; omega
  obtain ⟨m, rfl⟩ : ∃ m, n = m + 1 := ⟨n - 1, by omega⟩
  have HAX := Lib.hid (HA m rfl)
  have hb1 : (st.bump 1).at_ ≤ 100 := by show st.at_ + 1 ≤ 100; omega
  have hb2 : ((st.bump 1).bump 1).at_ ≤ 100 := by show st.at_ + 2 ≤ 100; omega
  have hb3 : (st.bump 1).caps ≤ 9 := h9
  have hr := HGP.out
  rw [if_neg h12] at hr
  go_upto_if 22 with fail
  clear c3 hop
  by_cases hB : c1_ = 63 ∧ c2_ ≠ 58
  · have b63 : (c1_ == 63) = true := by simpa using hB.1
    have b58 : (c2_ != 58) = true := by simpa using hB.2
    rw [if_neg (fun h => hB.2 h.2), if_pos hB.1] at hr
    subst hr
    clear hB
    go_upto_region 8 with (go_at_call 37; go_loud (refine (qnext_any _ _ HC3.out.b.q).mono ?_; rw [HN1.out]; rintro e w4 ⟨rfl, hx⟩; have HC4 := Lib.hid (HC3.out.ex hx); clear hx))
    have c1 := HC4.out.b.q.blk.c1
    have f1 := HC4.out.b.q.blk.fr 1
    go_upto_region 9 with fail
    have HC5 := Lib.hid HC4.out.bump1
    generalize w4.setCell _ _ = w5 at HC5 ⊢
    clear c1 f1
    go_upto_region 10 with (go_at_call 37; go_loud (refine (qnext_any _ _ HC5.out.b.q).mono ?_; rw [HN2.out]; rintro e w6 ⟨rfl, hx⟩; have HC6 := Lib.hid (HC5.out.ex hx); clear hx))
    have c1 := HC6.out.b.q.blk.c1
    go_wp2_with (go_at_call 29; go_loud (refine (qbad_any _ _ 5 (((st.bump 1).bump 1).at_ : Int) HC6.out.b.q).mono ?_; rintro e w7 ⟨rfl, hq, ho⟩; have HC7 := Lib.hid (HC6.out.call ho hq); clear hq ho))
    go_ret
    have hcb := RX.fail_eq (a := (st.bump 1).bump 1) (b := st) (c := 5) (x := (st.at_ + 2 : Nat)) rfl rfl
    exact ⟨[], _, _, rfl, SlB.nil_, HC7.out.b.q.blk, HC7.out.b.only, QOut.fault (by rw [RX.failop]; rfl) (by rw [RX.failat]; show st.at_ + 2 ≤ N + 1; omega) (RX.St.fail_ok _ (by decide)) hcb.1 hcb.2⟩
  by_cases hC : c1_ ≠ 63 ∧ 9 ≤ st.caps
  · have b63 : (c1_ == 63) = false := by simpa using hC.1
    have d9 : decide ((9 : Int) ≤ ((st.bump 1).caps : Int)) = true := by have := hC.2; show decide ((9 : Int) ≤ (st.caps : Int)) = true; simp; omega
    rw [if_neg (fun h => hC.1 h.1), if_neg hC.1, if_pos hC.2] at hr
    subst hr
    clear hC hB
    go_upto_region 13 with (go_at_call 37; go_loud (refine (qnext_any _ _ HC3.out.b.q).mono ?_; rw [HN1.out]; rintro e w4 ⟨rfl, hx⟩; have HC4 := Lib.hid (HC3.out.ex hx); clear hx))
    have c2 := HC4.out.b.q.blk.c2
    go_upto_if 56 with fail
    go_wp2_with (go_at_call 29; go_loud (refine (qbad_any _ _ 3 (st.at_ : Int) HC4.out.b.q).mono ?_; rintro e w5 ⟨rfl, hq, ho⟩; have HC5 := Lib.hid (HC4.out.call ho hq); clear hq ho))
    go_ret
    exact ⟨[], _, _, rfl, SlB.nil_, HC5.out.b.q.blk, HC5.out.b.only, QOut.fault (by rw [RX.failop]; rfl) (by rw [RX.failat]; show st.at_ + 1 ≤ N + 1; omega) (RX.St.fail_ok _ (by decide)) (RX.fail_eq (a := st.bump 1) (b := st) rfl rfl).1 (RX.fail_eq (a := st.bump 1) (b := st) rfl rfl).2⟩
  obtain ⟨lo, stg, hg, hw⟩ : ∃ (lo : Int) (stg : RX.St), R = RX.groupIn s alt lo stg ∧ ((c1_ = 63 ∧ c2_ = 58 ∧ lo = 0 ∧ stg = ((st.bump 1).bump 1).bump 1) ∨ (c1_ ≠ 63 ∧ st.caps < 9 ∧ lo = ((st.caps + 1 : Nat) : Int) ∧ stg = { st.bump 1 with caps := st.caps + 1 })) := by
    by_cases h63 : c1_ = 63
    · have h58 : c2_ = 58 := Classical.byContradiction fun h => hB ⟨h63, h⟩
      rw [if_pos ⟨h63, h58⟩] at hr
      exact ⟨_, _, hr, .inl ⟨h63, h58, rfl, rfl⟩⟩
    · have h9' : ¬ 9 ≤ st.caps := fun h => hC ⟨h63, h⟩
      rw [if_neg (fun h => h63 h.1), if_neg h63, if_neg h9'] at hr
      exact ⟨_, _, hr.trans (by push_cast; rfl), .inr ⟨h63, by omega, rfl, rfl⟩⟩
  have hstg : stg.at_ ≤ s.length ∧ stg.caps ≤ 9 ∧ stg.op = st.op ∧ stg.ok = true := by
    rcases hw with ⟨-, h2, -, rfl⟩ | ⟨-, h2, -, rfl⟩
    · have := RX.nxt_in (s := s) (k := 0) (st := (st.bump 1).bump 1) (by rw [HN2.out, h2]; decide)
      exact ⟨this, h9, rfl, HOK.out⟩
    · exact ⟨ha, h2, rfl, HOK.out⟩
  have HW := Lib.hid hw
  have HG := Lib.hid (HR.out.trans hg)
  have HSTG := Lib.hid hstg
  have hga : stg.at_ ≤ s.length := hstg.1
  have hgc : stg.caps ≤ 9 := hstg.2.1
  have hgo : stg.op ≤ 11 := by rw [hstg.2.2.1]; omega
  clear hr hw hB hC hg hstg h12 d12
  go_upto_if 28 with (go_at_call 37; go_loud (refine (qnext_any _ _ HC3.out.b.q).mono ?_; rw [HN1.out]; rintro e w4 ⟨rfl, hx⟩; have HC4 := Lib.hid (HC3.out.ex hx); clear hx))
  go_cut [] (fun wx => Qg w0 rb sv s w1 gb 5 lo 0 false stg (.slice none 0 0) [] wx)
  case first =>
    rcases HW.out with ⟨h1, h2, rfl, rfl⟩ | ⟨h1, h2, rfl, rfl⟩
    · have b63 : (c1_ == 63) = true := by simpa using h1
      have b58 : (c2_ != 58) = false := by simpa using h2
      clear h1 h2
      have c1 := HC4.out.b.q.blk.c1
      have f1 := HC4.out.b.q.blk.fr 1
      go_upto_region 9 with fail
      have HC5 := Lib.hid HC4.out.bump1
      generalize w4.setCell _ _ = w5 at HC5 ⊢
      clear c1 f1
      go_upto_region 12 with (go_at_call 37; go_loud (refine (qnext_any _ _ HC5.out.b.q).mono ?_; rw [HN2.out]; rintro e w6 ⟨rfl, hx⟩; have HC6 := Lib.hid (HC5.out.ex hx); clear hx))
      have c1 := HC6.out.b.q.blk.c1
      have f1 := HC6.out.b.q.blk.fr 1
      go_wp2_with fail
      go_meet
      exact HC6.out.bump1
    · have b63 : (c1_ == 63) = false := by simpa using h1
      have d9 : decide ((9 : Int) ≤ ((st.bump 1).caps : Int)) = false := by show decide ((9 : Int) ≤ (st.caps : Int)) = false; simp; omega
      clear h1
      have c2 := HC4.out.b.q.blk.c2
      have f2 := HC4.out.b.q.blk.fr 2
      go_upto_region 17 with fail
      have HC5 := Lib.hid HC4.out.setcaps1
      generalize w4.setCell _ _ = w5 at HC5 ⊢
      clear c2 f2
      have c2 := HC5.out.b.q.blk.c2
      have fg := HC5.out.g.fr 2
      have cg := HC5.out.g.c 2 _ rfl
      go_wp2_with fail
      go_meet
      exact HC5.out.set HC5.out.g.lo_
  case rest =>
  have HC9 := Lib.hid hcut
  generalize wc = w9 at HC9 ⊢
  clear hcut
  have c3 := HC9.out.b.q.blk.c3
  have f3 := HC9.out.b.q.blk.fr 3
  go_upto_region 19 with fail
  have HCA := Lib.hid HC9.out.setop1
  generalize w9.setCell _ _ = wA at HCA ⊢
  clear c3 f3
  go_upto_region 20 with (go_at_call 27; go_loud (refine (HAX.out _ _ HCA.out.b.q HSTG.out.2.2.2 hga hgc (by have := HSTG.out.2.2.1; have := HOP.out; show stg.op + 1 + m = 12; omega)).mono ?_; rintro e wB ⟨l5, v5, st5, rfl, hv, hq, ho, hout⟩; have HCB := Lib.hid ((HCA.out.call ho hq).setv (SlRe.weak hv HCA.out.b.only.size)); have HO5 := Lib.hid hout; obtain ⟨Av, cv, rfl, -⟩ := hv.form; clear hv hq ho hout))
  have h5p : 1 ≤ st5.op := by have := HO5.out.op; rw [this]; exact Nat.succ_le_succ (Nat.zero_le _)
  have h5q : st5.op ≤ 12 := by have := HO5.out.op; rw [this]; exact Nat.succ_le_succ hgo
  have h5a : st5.at_ ≤ N := HO5.out.hi
  have c3 := HCB.out.b.q.blk.c3
  have f3 := HCB.out.b.q.blk.fr 3
  go_upto_region 21 with fail
  have HCD := Lib.hid (HCB.out.setop0 h5p)
  generalize wB.setCell _ _ = wD at HCD ⊢
  clear c3 f3
  obtain ⟨st6, h6⟩ : ∃ x : RX.St, { st5 with op := st5.op - 1 } = x := ⟨_, rfl⟩
  have h6a : st6.at_ ≤ N := by rw [← h6]; exact h5a
  rw [h6] at HCD
  have HQ := Lib.hid (HO5.out.group HG.out HSTG.out.2.2.1 hD.1)
  have he : RX.grpEnd s st5 = (if st6.ok = true ∧ RX.nxt s st6 0 ≠ 41 then st6.fail 5 st6.at_ else st6).bump 1 := by unfold RX.grpEnd; rw [h6]
  rw [he, HR.out] at HQ
  clear he h6 h5p h5q
  rcases hk6 : st6.ok with _ | _
  · have HK6 := Lib.hid hk6
    rw [if_neg (by rw [hk6]; simp)] at HQ
    clear hk6
    go_upto_region 23 with (go_at_call 28; go_loud (refine (qok_any _ _ HCD.out.b.q).mono ?_; rw [HK6.out]; rintro e wE ⟨rfl, hx⟩; have HCE := Lib.hid (HCD.out.ex hx); clear hx))
    have c1 := HCE.out.b.q.blk.c1
    have f1 := HCE.out.b.q.blk.fr 1
    go_upto_region 24 with fail
    have HCF := Lib.hid HCE.out.bump1
    generalize wE.setCell _ _ = wF at HCF ⊢
    clear c1 f1
    have g0 := HCF.out.g.c 0 _ rfl
    have g1 := HCF.out.g.c 1 _ rfl
    have g2 := HCF.out.g.c 2 _ rfl
    have g3 := HCF.out.g.c 3 _ rfl
    have g4 := HCF.out.g.c 4 _ rfl
    have g5 := HCF.out.g.c 5 _ rfl
    have g6 := HCF.out.g.c 6 _ rfl
    have hbz := HCF.out.b.only.size
    go_wp2_with (go_at_call 38; go_loud (refine (qunder_any (B := w1.heap.size) _ (RX.node 5 lo 0 false false []) _ l5 _ CR.mk0 HCF.out.val hbz (by have := HO5.out.len; omega) (fun y hy => by have := HO5.out.deep y hy; omega)).mono ?_; rintro e wz ⟨vz, rfl, hvz, hxz⟩; have HVZ := Lib.hid hvz.sl; have HCZ := Lib.hid (HCF.out.ex hxz); clear hvz hxz))
    go_ret
    exact ⟨_, _, _, rfl, HVZ.out, HCZ.out.b.q.blk, HCZ.out.b.only, HQ.out⟩
  have HK6 := Lib.hid hk6
  obtain ⟨c4_, hc4⟩ : ∃ x, RX.nxt s st6 0 = x := ⟨_, rfl⟩
  have HN4 := Lib.hid hc4
  by_cases h41 : c4_ = 41
  · have b41 : (c4_ != 41) = false := by simpa using h41
    rw [if_neg (by rw [hc4]; exact fun h => h.2 h41)] at HQ
    clear hk6 hc4 h41
    go_upto_region 23 with (first
      | (go_at_call 28; go_loud (refine (qok_any _ _ HCD.out.b.q).mono ?_; rw [HK6.out]; rintro e wI ⟨rfl, hx⟩; have HCI := Lib.hid (HCD.out.ex hx); clear hx))
      | (go_at_call 37; go_loud (refine (qnext_any _ _ HCI.out.b.q).mono ?_; rw [HN4.out]; rintro e wE ⟨rfl, hx⟩; have HCE := Lib.hid (HCI.out.ex hx); clear hx)))
    have c1 := HCE.out.b.q.blk.c1
    have f1 := HCE.out.b.q.blk.fr 1
    go_upto_region 24 with fail
    have HCF := Lib.hid HCE.out.bump1
    generalize wE.setCell _ _ = wF at HCF ⊢
    clear c1 f1
    have g0 := HCF.out.g.c 0 _ rfl
    have g1 := HCF.out.g.c 1 _ rfl
    have g2 := HCF.out.g.c 2 _ rfl
    have g3 := HCF.out.g.c 3 _ rfl
    have g4 := HCF.out.g.c 4 _ rfl
    have g5 := HCF.out.g.c 5 _ rfl
    have g6 := HCF.out.g.c 6 _ rfl
    have hbz := HCF.out.b.only.size
    go_wp2_with (go_at_call 38; go_loud (refine (qunder_any (B := w1.heap.size) _ (RX.node 5 lo 0 false false []) _ l5 _ CR.mk0 HCF.out.val hbz (by have := HO5.out.len; omega) (fun y hy => by have := HO5.out.deep y hy; omega)).mono ?_; rintro e wz ⟨vz, rfl, hvz, hxz⟩; have HVZ := Lib.hid hvz.sl; have HCZ := Lib.hid (HCF.out.ex hxz); clear hvz hxz))
    go_ret
    exact ⟨_, _, _, rfl, HVZ.out, HCZ.out.b.q.blk, HCZ.out.b.only, HQ.out⟩
  · have b41 : (c4_ != 41) = true := by simpa using h41
    rw [if_pos ⟨hk6, by rw [hc4]; exact h41⟩] at HQ
    clear hk6 hc4 h41
    go_upto_region 22 with (first
      | (go_at_call 28; go_loud (refine (qok_any _ _ HCD.out.b.q).mono ?_; rw [HK6.out]; rintro e wI ⟨rfl, hx⟩; have HCI := Lib.hid (HCD.out.ex hx); clear hx))
      | (go_at_call 37; go_loud (refine (qnext_any _ _ HCI.out.b.q).mono ?_; rw [HN4.out]; rintro e wJ ⟨rfl, hx⟩; have HCJ := Lib.hid (HCI.out.ex hx); clear hx)))
    have c1 := HCJ.out.b.q.blk.c1
    go_upto_region 23 with (go_at_call 29; go_loud (refine (qbad_any _ _ 5 (st6.at_ : Int) HCJ.out.b.q).mono ?_; rintro e wE ⟨rfl, hq, ho⟩; have HCE := Lib.hid (HCJ.out.call ho hq); clear hq ho))
    clear c1
    have h7a : (st6.fail 5 (st6.at_ : Int)).at_ ≤ 1000 := by rw [RX.failat]; omega
    generalize st6.fail 5 (st6.at_ : Int) = st7 at HCE HQ h7a
    have c1 := HCE.out.b.q.blk.c1
    have f1 := HCE.out.b.q.blk.fr 1
    go_upto_region 24 with fail
    have HCF := Lib.hid HCE.out.bump1
    generalize wE.setCell _ _ = wF at HCF ⊢
    clear c1 f1
    have g0 := HCF.out.g.c 0 _ rfl
    have g1 := HCF.out.g.c 1 _ rfl
    have g2 := HCF.out.g.c 2 _ rfl
    have g3 := HCF.out.g.c 3 _ rfl
    have g4 := HCF.out.g.c 4 _ rfl
    have g5 := HCF.out.g.c 5 _ rfl
    have g6 := HCF.out.g.c 6 _ rfl
    have hbz := HCF.out.b.only.size
    go_wp2_with (go_at_call 38; go_loud (refine (qunder_any (B := w1.heap.size) _ (RX.node 5 lo 0 false false []) _ l5 _ CR.mk0 HCF.out.val hbz (by have := HO5.out.len; omega) (fun y hy => by have := HO5.out.deep y hy; omega)).mono ?_; rintro e wz ⟨vz, rfl, hvz, hxz⟩; have HVZ := Lib.hid hvz.sl; have HCZ := Lib.hid (HCF.out.ex hxz); clear hvz hxz))
    go_ret
    exact ⟨_, _, _, rfl, HVZ.out, HCZ.out.b.q.blk, HCZ.out.b.only, HQ.out⟩
end
end Go.Proofs.Ytpcdknfmgacggaa
