/- Walks: member, single of the document's own reader. -/
import Derived.Test.YtfblkahjefdmaaaRfC
import Derived.Deep.RegionHeld3
namespace Go.Proofs.Ytfblkahjefdmaaa
open Go.RowKit

namespace RX
theorem sign_lower {c : Int} {l : List Int} (h : sortR (lower c) = some l) : signR c = none := by
  have hc : c = 100 ∨ c = 119 ∨ c = 115 ∨ c = 68 ∨ c = 87 ∨ c = 83 := by
    by_cases h6 : c = 100 ∨ c = 119 ∨ c = 115 ∨ c = 68 ∨ c = 87 ∨ c = 83
    · exact h6
    · simp only [not_or] at h6
      rw [sort_six (lower_six ⟨h6.1, h6.2.1, h6.2.2.1, h6.2.2.2.1, h6.2.2.2.2.1, h6.2.2.2.2.2⟩)] at h
      cases h
  rcases hc with rfl | rfl | rfl | rfl | rfl | rfl <;> decide
theorem sort_three {c : Int} {l : List Int} (h : sortR c = some l) : (c = 100 ∧ l = [48, 57]) ∨ (c = 119 ∧ l = [97, 122, 65, 90, 48, 57, 95, 95]) ∨ (c = 115 ∧ l = [32, 32, 9, 9, 10, 10]) := by
  unfold sortR at h
  split at h
  · rename_i hc; injection h with h; exact .inl ⟨hc, h.symm⟩
  split at h
  · rename_i hc; injection h with h; exact .inr (.inl ⟨hc, h.symm⟩)
  split at h
  · rename_i hc; injection h with h; exact .inr (.inr ⟨hc, h.symm⟩)
  · cases h
theorem behind_bad {c : Int} (h1 : sortR c = none) (h2 : signR c = none) : (behindM c).2 = true := by
  unfold behindM
  rw [h1]
  simp only
  rcases h3 : sortR (lower c) with _ | l
  · simp only [h2]
  · rfl
theorem behind_sign {c x : Int} (h1 : sortR c = none) (h2 : signR c = some x) : behindM c = ([x, x], false) := by
  unfold behindM
  rw [h1]
  simp only
  rcases h3 : sortR (lower c) with _ | l
  · simp only [h2]
  · rw [sign_lower h3] at h2; cases h2
theorem behind_sort {c : Int} {l : List Int} (h1 : sortR c = some l) : behindM c = (l, false) := by
  unfold behindM
  rw [h1]
/-- The ranges of a member of a class. -/
def memSet (m : Int × Option (List Int) × St) : List Int := match m.2.1 with
  | some l => l
  | none => [m.1, m.1]
/-- Does a member of one sign begin at a place? -/
def singleM (s : List Int) (k : Nat) : Bool := match s[k]? with
  | none => false
  | some c => decide (c ≠ 93) && (decide (c ≠ 92) || (signR ((s[k + 1]?).getD (-1))).isSome)
end RX
/-- A state where something is wrong, as another one tells it. -/
structure Badly (st stf st2 : RX.St) (n : Nat) : Prop where
  code : st2.code = stf.code
  bat : st2.bat = stf.bat
  hi : st2.at_ ≤ n
  op : st2.op = st.op
theorem Badly.ok {st stf st2 : RX.St} {n : Nat} (h : Badly st stf st2 n) : st2.ok = stf.ok := by unfold RX.St.ok; rw [h.code]
/-- What member returns. -/
def MeP (s : List Int) (st : RX.St) (rb : Nat) (sv : Value) (w : World) (e : Ending) (w' : World) : Prop :=
  Only w w' rb ∧ (((RX.member s st).2.2.ok = true ∧ ∃ v, e = .returned (.tuple #[v, .bool (RX.member s st).2.1.isNone]) ∧ SlB 21 1 Cc w.heap.size w' v (RX.memSet (RX.member s st)) ∧ QS rb sv w' (RX.member s st).2.2) ∨
    ((RX.member s st).2.2.ok = false ∧ e = .returned (.tuple #[.slice none 0 0, .bool false]) ∧ ∃ st2, QS rb sv w' st2 ∧ Badly st (RX.member s st).2.2 st2 (st.at_ + 2)))
theorem nxt_pos {s : List Int} (hp : ∀ x ∈ s, 0 ≤ x) (st : RX.St) (k : Nat) : RX.nxt s st k = -1 ∨ 0 ≤ RX.nxt s st k := by
  unfold RX.nxt
  rcases hx : s[st.at_ + k]? with _ | x
  · exact .inl rfl
  · exact .inr (hp x (List.mem_of_getElem? hx))
theorem two_at {B : Nat} {w : World} {A : Option Addr} {n c : Nat} {a b : Int} (h : SlB 21 1 Cc B w (.slice A n c) [a, b]) : ∃ g o, A = some ⟨g, o, none⟩ ∧ w.cell? ⟨g, o, none⟩ = some (.int .i32 a) ∧ w.cell? ⟨g, o + 1, none⟩ = some (.int .i32 b) := by
  obtain ⟨g, o, hA, h0⟩ := SlC.at_ (SlB.slc h) (k := 0) (by simp)
  obtain ⟨g', o', hA', h1⟩ := SlC.at_ (SlB.slc h) (k := 1) (by simp)
  rw [hA] at hA'
  injection hA' with hA'
  injection hA' with e1 e2 _
  subst e1 e2
  exact ⟨g, o, hA, h0, h1⟩
section
variable {w0 : World} {rb : Nat} {sv : Value} {s : List Int}
set_option maxRecDepth 100000 in
set_option maxHeartbeats 2000000 in
theorem qmember_any (w1 : World) (st : RX.St) (he : Qn w0 rb sv s w1 st) (hok : st.ok = true) (ha1 : st.at_ ≤ 1000) :
    Calls Try.prog 156 #[.pointer (some ⟨rb, 0, none⟩)] w1 (MeP s st rb sv w1) := by
  have HQ1 := Lib.hid he
  have HO1 := Lib.hid (Only.refl w1 rb)
  have HOK := Lib.hid hok
  obtain ⟨c, hc⟩ : ∃ c, RX.nxt s st 0 = c := ⟨_, rfl⟩
  have HN := Lib.hid hc
  have hcn := nxt_pos he.pos st 0
  rw [hc] at hcn
  have c1 := he.blk.c1
  obtain ⟨m, hm⟩ : ∃ m, RX.member s st = m := ⟨_, rfl⟩
  have HM := Lib.hid hm
  unfold MeP
  rw [hm]
  have hmm : m = if c = -1 ∨ c = 93 then (0, none, st.fail 5 st.at_)
      else if c = 92 then (if RX.sortR (RX.nxt s (st.bump 1) 0) = none ∧ RX.signR (RX.nxt s (st.bump 1) 0) = none then (0, none, (st.bump 1).fail 5 (st.bump 1).at_) else ((RX.signR (RX.nxt s (st.bump 1) 0)).getD 0, RX.sortR (RX.nxt s (st.bump 1) 0), (st.bump 1).bump 1))
      else (c, none, st.bump 1) := by
    rw [← hm, ← hc]; rfl
  clear he hc hok hm
  go_enter Try.func156, Try.ntmps156
  go_wp2_with fail
  go_region_held3 (fun w' => w'.cell? ⟨rb, 1, none⟩ = some (.int .i64 (st.at_ : Int))) (first | go_keep | assumption)
    (first | (go_at_call 116; go_loud (refine (qnext_any _ st (Qn.ex HQ1.out (by first | exact Ext.refl _ | exact (Ext.refl _).drewN _ | exact (Ext.refl _).drew))).mono ?_); go_loud (rw [HN.out]; rintro e w2 ⟨rfl, hx⟩; have hx2 := Ext.trans (show Ext w1 _ from (by first | exact Ext.refl _ | exact (Ext.refl _).drewN _ | exact (Ext.refl _).drew)) hx; have HQ2 := Lib.hid (Qn.ex HQ1.out hx2); have HO2 := Lib.hid (Only.trans HO1.out (Only.of_ext hx2 rb)); have c1 := HQ2.out.blk.c1; clear hx hx2)))
  clear c1
  by_cases h92 : c = 92
  · subst h92
    obtain ⟨d, hd⟩ : ∃ d, RX.nxt s (st.bump 1) 0 = d := ⟨_, rfl⟩
    rw [if_neg (by omega), if_pos rfl, hd] at hmm
    have HD := Lib.hid hd
    clear hd hcn
    have HBE := Lib.hid (fun w h => qbehind_any (w0 := w0) (rb := rb) (sv := sv) (s := s) w st h ha1)
    rw [HD.out] at HBE
    have hbump : (st.bump 1).at_ = st.at_ + 1 := rfl
    by_cases hbad : RX.sortR d = none ∧ RX.signR d = none
    · have hb2 := RX.behind_bad hbad.1 hbad.2
      rw [if_pos hbad] at hmm
      have HB2 := Lib.hid hb2
      have HMM := Lib.hid hmm
      clear hb2 hmm hbad
      go_wp2_with (first
        | (go_at_call 149; go_loud (refine (HBE.out _ HQ2.out).mono ?_; rintro e w3 ⟨v, rfl, hv, hq, ho⟩; rw [HB2.out]; have HQ3 := Lib.hid (Qn.step HQ2.out ho hq); have HO3 := Lib.hid (Only.trans HO2.out ho); obtain ⟨Av, cv, rfl, -⟩ := hv.form; clear hv hq ho))
        | (go_at_call 89; go_loud (refine (qbad_any _ _ 5 ((st.at_ : Int) + 1) HQ3.out).mono ?_; rintro e w4 ⟨rfl, hq, ho⟩; have HQ4 := Lib.hid (Qn.step HQ3.out ho hq); have HO4 := Lib.hid (Only.trans HO3.out ho); have HP4 := Lib.hid ho; clear hq ho)))
      go_ret2
      have hb4 := HQ4.out.blk
      refine ⟨HO4.out, .inr ⟨by rw [HMM.out]; exact RX.St.fail_ok _ (by decide), rfl, _, hb4, ?_⟩⟩
      rw [HMM.out]
      have h0 : st.code = 0 := by have := HOK.out; unfold RX.St.ok at this; exact beq_iff_eq.1 this
      exact ⟨by simp [RX.St.fail, RX.St.bump, h0], by simp [RX.St.fail, RX.St.bump, h0], by rw [RX.St.fail_at]; exact Nat.le_refl _, by rw [RX.St.fail_op]; rfl⟩
    · rw [if_neg hbad] at hmm
      have hok2 : m.2.2.ok = true := by rw [hmm]; exact HOK.out
      have HOK2 := Lib.hid hok2
      have hst : m.2.2 = st.bump 2 := by rw [hmm]; rfl
      have HST := Lib.hid hst
      rcases hs : RX.sortR d with _ | l
      · rcases hg : RX.signR d with _ | x
        · exact absurd ⟨hs, hg⟩ hbad
        have hbx := RX.behind_sign hs hg
        have HR := Lib.hid (show m.2.1 = none ∧ RX.memSet m = [x, x] by rw [hmm]; unfold RX.memSet; rw [hs, hg]; exact ⟨rfl, rfl⟩)
        have HBX := Lib.hid hbx
        clear hmm hbad hok2 hst hs hg hbx
        go_wp2_with (go_at_call 149; go_loud (refine (HBE.out _ HQ2.out).mono ?_; rintro e w3 ⟨v, rfl, hv, hq, ho⟩; rw [HBX.out] at hv ⊢; have HQ3 := Lib.hid (Qn.step HQ2.out ho hq); have HO3 := Lib.hid (Only.trans HO2.out ho); have HV3 := Lib.hid (SlB.weaken hv HO2.out.size); obtain ⟨Av, cv, rfl, -⟩ := hv.form; obtain ⟨g, og, rfl, q0, q1⟩ := two_at hv; clear hv hq ho))
        go_quiet (fail)
        go_wp2_with fail
        go_ret2
        refine ⟨HO3.out.trans (Only.of_ext (by first | exact (Ext.refl _).drewN _ | exact Ext.refl _) rb), .inl ⟨HOK2.out, _, by rw [HR.out.1]; rfl, by rw [HR.out.2]; exact HV3.out.keep (keeps_c []) (KeepT.of_ext (by first | exact (Ext.refl _).drewN _ | exact Ext.refl _)) (KeepT.of_ext (by first | exact (Ext.refl _).drewN _ | exact Ext.refl _)), by rw [HST.out]; exact HQ3.out.blk⟩⟩
      · have hbx := RX.behind_sort hs
        have HR := Lib.hid (show m.2.1.isNone = false ∧ RX.memSet m = l by rw [hmm]; unfold RX.memSet; rw [hs]; exact ⟨rfl, rfl⟩)
        have h3 := RX.sort_three hs
        have HBX := Lib.hid hbx
        clear hmm hbad hok2 hst hs hbx
        rcases h3 with ⟨-, rfl⟩ | ⟨-, rfl⟩ | ⟨-, rfl⟩
        · go_wp2_with (go_at_call 149; go_loud (refine (HBE.out _ HQ2.out).mono ?_; rintro e w3 ⟨v, rfl, hv, hq, ho⟩; rw [HBX.out] at hv ⊢; have HQ3 := Lib.hid (Qn.step HQ2.out ho hq); have HO3 := Lib.hid (Only.trans HO2.out ho); have HV3 := Lib.hid (SlB.weaken hv HO2.out.size); obtain ⟨Av, cv, rfl, -⟩ := hv.form; obtain ⟨g, og, rfl, q0, q1⟩ := two_at hv; clear hv hq ho))
          go_quiet (fail)
          go_wp2_with fail
          go_ret2
          refine ⟨HO3.out.trans (Only.of_ext (by first | exact (Ext.refl _).drewN _ | exact Ext.refl _) rb), .inl ⟨HOK2.out, _, by rw [HR.out.1]; rfl, by rw [HR.out.2]; exact HV3.out.keep (keeps_c []) (KeepT.of_ext (by first | exact (Ext.refl _).drewN _ | exact Ext.refl _)) (KeepT.of_ext (by first | exact (Ext.refl _).drewN _ | exact Ext.refl _)), by rw [HST.out]; exact HQ3.out.blk⟩⟩
        · go_wp2_with (go_at_call 149; go_loud (refine (HBE.out _ HQ2.out).mono ?_; rintro e w3 ⟨v, rfl, hv, hq, ho⟩; rw [HBX.out] at hv ⊢; have HQ3 := Lib.hid (Qn.step HQ2.out ho hq); have HO3 := Lib.hid (Only.trans HO2.out ho); have HV3 := Lib.hid (SlB.weaken hv HO2.out.size); obtain ⟨Av, cv, rfl, -⟩ := hv.form; clear hv hq ho))
          go_quiet (fail)
          go_wp2_with fail
          go_ret2
          refine ⟨HO3.out.trans (Only.of_ext (by first | exact (Ext.refl _).drewN _ | exact Ext.refl _) rb), .inl ⟨HOK2.out, _, by rw [HR.out.1]; rfl, by rw [HR.out.2]; exact HV3.out.keep (keeps_c []) (KeepT.of_ext (by first | exact (Ext.refl _).drewN _ | exact Ext.refl _)) (KeepT.of_ext (by first | exact (Ext.refl _).drewN _ | exact Ext.refl _)), by rw [HST.out]; exact HQ3.out.blk⟩⟩
        · go_wp2_with (go_at_call 149; go_loud (refine (HBE.out _ HQ2.out).mono ?_; rintro e w3 ⟨v, rfl, hv, hq, ho⟩; rw [HBX.out] at hv ⊢; have HQ3 := Lib.hid (Qn.step HQ2.out ho hq); have HO3 := Lib.hid (Only.trans HO2.out ho); have HV3 := Lib.hid (SlB.weaken hv HO2.out.size); obtain ⟨Av, cv, rfl, -⟩ := hv.form; clear hv hq ho))
          go_quiet (fail)
          go_wp2_with fail
          go_ret2
          refine ⟨HO3.out.trans (Only.of_ext (by first | exact (Ext.refl _).drewN _ | exact Ext.refl _) rb), .inl ⟨HOK2.out, _, by rw [HR.out.1]; rfl, by rw [HR.out.2]; exact HV3.out.keep (keeps_c []) (KeepT.of_ext (by first | exact (Ext.refl _).drewN _ | exact Ext.refl _)) (KeepT.of_ext (by first | exact (Ext.refl _).drewN _ | exact Ext.refl _)), by rw [HST.out]; exact HQ3.out.blk⟩⟩
  · have b92 : (c == 92) = false := by simpa using h92
    by_cases hbad : c = -1 ∨ c = 93
    · rw [if_pos hbad] at hmm
      have HMM := Lib.hid hmm
      clear hmm h92
      rcases hbad with rfl | rfl
      all_goals
        clear hcn
        go_wp2_with (go_at_call 89; go_loud (refine (qbad_any _ _ 5 (st.at_ : Int) HQ2.out).mono ?_; rintro e w3 ⟨rfl, hq, ho⟩; have HQ3 := Lib.hid (Qn.step HQ2.out ho hq); have HO3 := Lib.hid (Only.trans HO2.out ho); have HP3 := Lib.hid ho; clear hq ho))
        go_ret2
        have hb4 := HQ3.out.blk
        refine ⟨HO3.out, .inr ⟨by rw [HMM.out]; exact RX.St.fail_ok _ (by decide), rfl, _, hb4, ?_⟩⟩
        rw [HMM.out]
        exact ⟨rfl, rfl, by rw [RX.St.fail_at]; omega, RX.St.fail_op _ _ _⟩
    · rw [if_neg hbad, if_neg h92] at hmm
      have h93 : (c == 93) = false := by simp; omega
      have hneg : decide (c < 0) = false := decide_eq_false (by omega)
      have HMM := Lib.hid hmm
      have HOK2 := Lib.hid (show m.2.2.ok = true by rw [hmm]; exact HOK.out)
      clear hmm h92 hbad hcn
      have c1 := HQ2.out.blk.c1
      have f1 := HQ2.out.blk.fr 1
      go_upto_region 12 with fail
      have HQ3 := Lib.hid (Qn.bump1 HQ2.out)
      have HO3 := Lib.hid (Only.trans HO2.out ((Only.refl w2 rb).set (o := 1) (.int .i64 ((st.at_ : Int) + 1))))
      generalize w2.setCell _ _ = w3 at HQ3 HO3 ⊢
      clear c1 f1
      go_wp2_with fail
      go_ret2
      refine ⟨HO3.out.alloc _, .inl ⟨HOK2.out, _, by rw [HMM.out]; rfl, ?_, ?_⟩⟩
      · rw [HMM.out]
        exact c_lit w3 [c, c] _ _ rfl rfl HO3.out.size (by simp)
      · rw [HMM.out]
        exact ((Ext.refl w3).alloc _).heap HQ3.out.blk
set_option maxRecDepth 100000 in
set_option maxHeartbeats 2000000 in
theorem qsingle_any (w1 : World) (st : RX.St) (he : Qn w0 rb sv s w1 st) (k : Nat) (hk : k ≤ 1000) :
    Calls Try.prog 157 #[.pointer (some ⟨rb, 0, none⟩), .int .i64 (k : Int)] w1 (RetE (.bool (RX.singleM s k)) w1) := by
  have HQ1 := Lib.hid he
  have c0 := he.blk.c0
  have HS := Lib.hid (he.sl.ext he.ext)
  have hl60 := he.len
  obtain ⟨A, ca, rfl, hlx, hcx, _⟩ := he.sl
  by_cases hlt : k < s.length
  rotate_left
  · have HV := Lib.hid (show RX.singleM s k = false by unfold RX.singleM; rw [List.getElem?_eq_none (by omega)])
    have hd : decide ((s.length : Int) ≤ (k : Int)) = true := decide_eq_true (by omega)
    clear he
    go_enter Try.func157, Try.ntmps157
    go_wp2_with fail
    go_ret
    exact ⟨ret_congr (by rw [HV.out]; rfl), Ext.refl _⟩
  have hd : decide ((s.length : Int) ≤ (k : Int)) = false := decide_eq_false (by omega)
  have hki : (k : Int) < (s.length : Int) := by omega
  obtain ⟨b, og, rfl, hc⟩ := HS.out.at_ (k := k) hlt
  have hsm : RX.singleM s k = (decide (s[k] ≠ 93) && (decide (s[k] ≠ 92) || (RX.signR ((s[k + 1]?).getD (-1))).isSome)) := by unfold RX.singleM; rw [List.getElem?_eq_getElem hlt]
  generalize s[k] = x at hc hsm
  by_cases h93 : x = 93
  · subst h93
    have HV := Lib.hid (show RX.singleM s k = false by rw [hsm]; rfl)
    clear he hsm
    go_enter Try.func157, Try.ntmps157
    go_wp2_with fail
    go_ret
    exact ⟨ret_congr (by rw [HV.out]; rfl), Ext.refl _⟩
  have b93 : (x == 93) = false := by simpa using h93
  by_cases h92 : x = 92
  rotate_left
  · have HV := Lib.hid (show RX.singleM s k = true by rw [hsm]; simp [h93, h92])
    have b92 : (x != 92) = true := by simpa using h92
    clear he hsm h92 h93
    go_enter Try.func157, Try.ntmps157
    go_wp2_with fail
    go_ret
    exact ⟨ret_congr (by rw [HV.out]; rfl), Ext.refl _⟩
  subst h92
  obtain ⟨d, hdd⟩ : ∃ d, (s[k + 1]?).getD (-1) = d := ⟨_, rfl⟩
  rw [hdd] at hsm
  have hnx : RX.nxt s (RX.St.bump ⟨k, 0, 0, 0, 0⟩ 1) 0 = d := by rw [← hdd]; rfl
  have hx2 := (Ext.refl w1).alloc (.cells #[.slice (some ⟨b, og, none⟩) s.length ca, .int .i64 (k : Int), .int .i64 0, .int .i64 0, .int .i64 0, .int .i64 0] 130)
  have HQ2 := Lib.hid (show Qn w0 w1.heap.size (.slice (some ⟨b, og, none⟩) s.length ca) s (w1.alloc (.cells #[.slice (some ⟨b, og, none⟩) s.length ca, .int .i64 (k : Int), .int .i64 0, .int .i64 0, .int .i64 0, .int .i64 0] 130)) ⟨k, 0, 0, 0, 0⟩ from
    ⟨he.sl, he.ext.size, he.len, he.pos, he.ext.trans hx2, heap_alloc_new w1 _⟩)
  have HX2 := Lib.hid hx2
  have HBE := Lib.hid (fun w h => qbehind_any (w0 := w0) (rb := w1.heap.size) (sv := .slice (some ⟨b, og, none⟩) s.length ca) (s := s) w ⟨k, 0, 0, 0, 0⟩ h hk)
  rw [hnx] at HBE
  have HSM := Lib.hid hsm
  clear he hsm h93 hnx hdd hx2
  have hb2 : RX.singleM s k = (RX.signR d).isSome := by rw [HSM.out]; rfl
  have HB2 := Lib.hid hb2
  clear hb2
  rcases hs : RX.sortR d with _ | l
  · rcases hg : RX.signR d with _ | y
    · have hbad := RX.behind_bad hs hg
      have HBD := Lib.hid hbad
      have HV := Lib.hid (show RX.singleM s k = false by rw [HB2.out, hg]; rfl)
      clear hs hg hbad
      go_enter Try.func157, Try.ntmps157
      go_wp2_with (go_at_call 149; go_loud (refine (HBE.out _ HQ2.out).mono ?_; rintro e w3 ⟨v, rfl, hv, hq, ho⟩; rw [HBD.out]; have HX3 := Lib.hid (Ext.only HX2.out ho (Nat.le_refl _)); obtain ⟨Av, cv, rfl, -⟩ := hv.form; clear hv hq ho))
      go_quiet (fail)
      go_wp2_with fail
      go_ret
      exact ⟨ret_congr (by rw [HV.out]; rfl), HX3.out.trans (by first | exact (Ext.refl _).drewN _ | exact Ext.refl _)⟩
    · have hbx := RX.behind_sign hs hg
      have HBX := Lib.hid hbx
      have HV := Lib.hid (show RX.singleM s k = true by rw [HB2.out, hg]; rfl)
      clear hs hg hbx
      go_enter Try.func157, Try.ntmps157
      go_wp2_with (go_at_call 149; go_loud (refine (HBE.out _ HQ2.out).mono ?_; rintro e w3 ⟨v, rfl, hv, hq, ho⟩; rw [HBX.out] at hv ⊢; have HX3 := Lib.hid (Ext.only HX2.out ho (Nat.le_refl _)); obtain ⟨Av, cv, rfl, -⟩ := hv.form; obtain ⟨g, og2, rfl, q0, q1⟩ := two_at hv; clear hv hq ho))
      go_quiet (fail)
      go_wp2_with fail
      go_ret
      exact ⟨ret_congr (by rw [HV.out]; simp), HX3.out.trans (by first | exact (Ext.refl _).drewN _ | exact Ext.refl _)⟩
  · have hbx := RX.behind_sort hs
    have h3 := RX.sort_three hs
    have HBX := Lib.hid hbx
    have hg : RX.signR d = none := by rcases h3 with ⟨rfl, -⟩ | ⟨rfl, -⟩ | ⟨rfl, -⟩ <;> decide
    have HV := Lib.hid (show RX.singleM s k = false by rw [HB2.out, hg]; rfl)
    clear hs hbx hg
    rcases h3 with ⟨-, rfl⟩ | ⟨-, rfl⟩ | ⟨-, rfl⟩
    · go_enter Try.func157, Try.ntmps157
      go_wp2_with (go_at_call 149; go_loud (refine (HBE.out _ HQ2.out).mono ?_; rintro e w3 ⟨v, rfl, hv, hq, ho⟩; rw [HBX.out] at hv ⊢; have HX3 := Lib.hid (Ext.only HX2.out ho (Nat.le_refl _)); obtain ⟨Av, cv, rfl, -⟩ := hv.form; obtain ⟨g, og2, rfl, q0, q1⟩ := two_at hv; clear hv hq ho))
      go_quiet (fail)
      go_wp2_with fail
      go_ret
      exact ⟨ret_congr (by rw [HV.out]; rfl), HX3.out.trans (by first | exact (Ext.refl _).drewN _ | exact Ext.refl _)⟩
    · go_enter Try.func157, Try.ntmps157
      go_wp2_with (go_at_call 149; go_loud (refine (HBE.out _ HQ2.out).mono ?_; rintro e w3 ⟨v, rfl, hv, hq, ho⟩; rw [HBX.out] at hv ⊢; have HX3 := Lib.hid (Ext.only HX2.out ho (Nat.le_refl _)); obtain ⟨Av, cv, rfl, -⟩ := hv.form; clear hv hq ho))
      go_quiet (fail)
      go_wp2_with fail
      go_ret
      exact ⟨ret_congr (by rw [HV.out]; rfl), HX3.out.trans (by first | exact (Ext.refl _).drewN _ | exact Ext.refl _)⟩
    · go_enter Try.func157, Try.ntmps157
      go_wp2_with (go_at_call 149; go_loud (refine (HBE.out _ HQ2.out).mono ?_; rintro e w3 ⟨v, rfl, hv, hq, ho⟩; rw [HBX.out] at hv ⊢; have HX3 := Lib.hid (Ext.only HX2.out ho (Nat.le_refl _)); obtain ⟨Av, cv, rfl, -⟩ := hv.form; clear hv hq ho))
      go_quiet (fail)
      go_wp2_with fail
      go_ret
      exact ⟨ret_congr (by rw [HV.out]; rfl), HX3.out.trans (by first | exact (Ext.refl _).drewN _ | exact Ext.refl _)⟩
end
end Go.Proofs.Ytfblkahjefdmaaa
